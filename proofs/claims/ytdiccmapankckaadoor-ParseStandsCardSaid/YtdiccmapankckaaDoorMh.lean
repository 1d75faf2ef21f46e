/- PPa, PPt1, PPt2, PPt3, WLex1, WLex2, WLex3, WLex4, WExpr1, WExpr2, WExpr3, WExpr4, WExpr5, WExpr6. -/
import Derived.Test.YtdiccmapankckaaDoorMg
set_option linter.unusedSimpArgs false
set_option linter.unusedVariables false
set_option linter.unusedSectionVars false
set_option linter.defProp false
set_option maxRecDepth 20000
set_option maxHeartbeats 8000000
namespace Go.Proofs.YtdiccmapankckaaDoor.Ev
open Go
section
def kj (l : List Tok) (st : RS) : RS × Int := match jz l (8 * (l.length - st.pos) + 5) .expr st with
 | some (s, r) => (s, r.headD 0)
 | none => (st, 0)
def CR (l : List Tok) (a z : cm) (st : RS) : RS × Int := match jz l (8 * (l.length - st.pos) + 1) (.inner a z) st with
 | some (s, r) => (s, r.headD 0)
 | none => (st, 0)
def xj (l : List Tok) (st : RS) : RS × List Int := match jz l (8 * (l.length - st.pos) + 1) .args st with
 | some (s, r) => (s, r)
 | none => (st, [])
def RS.qu (st : RS) (l : List Tok) : Prop := st.fe = 0 /\ (st.now l).kind = 1
instance (st : RS) (l : List Tok) : Decidable (st.qu l) := inferInstanceAs (Decidable (_ /\ _))
def RS.name (st : RS) (l : List Tok) : RS := if st.qu l then st.next else st.fail 8 (st.now l).pos
def RS.c7 (st : RS) (l : List Tok) : cm := if st.qu l then (st.now l).text else []
def Og : cm := [118, 97, 114]
def Wi : cm := [105, 102]
def P3 : cm := [101, 108, 115, 101]
def AG : cm := [119, 104, 105, 108, 101]
def Oh : cm := [102, 111, 114]
def AH : cm := [98, 114, 101, 97, 107]
def oS : cm := [99, 111, 110, 116, 105, 110, 117, 101]
def vC : cm := [114, 101, 116, 117, 114, 110]
def DY : cm := [112, 114, 105, 110, 116]
def Hh : cm := [105, 110, 116]
def yn : cm := [98, 111, 111, 108]
def Hi : cm := [97, 114, 114]
def BK : cm := [102, 110]
def ly (l : List Tok) (st : RS) : RS × Int := if st.is l Hh then (st.next, 1) else if st.is l yn then (st.next, 2) else if st.is l Hi then (st.next, 3) else (st.fail 8 (st.now l).pos, 0)
def mc (l : List Tok) (st : RS) (d : Nd) : RS × Int := ((st.want l [59]).put d, (st.want l [59]).iI d)
def EE (l : List Tok) (st : RS) : RS × Int :=
 let e := kj l ((st.name l).want l [61])
 mc l e.1 (nd 12 [e.2] 0 (st.c7 l) (st.now l).pos)
def qp (l : List Tok) (kind : Int) (p : Nat) (st : RS) : RS × Int :=
 let e := kj l st
 mc l e.1 (nd kind [e.2] 0 [] p)
def lR (l : List Tok) (st : RS) : RS × Int :=
 let n := st.name l
 let p : Int := (st.now l).pos
 if n.is l [40] then
  let a := xj l n
  let c := nd 11 a.2 0 (st.c7 l) p
  mc l (a.1.put c) (nd 22 [a.1.iI c] 0 [] p)
 else if n.is l [91] then
  let i := CR l [91] [93] n
  let e := kj l (i.1.want l [61])
  mc l e.1 (nd 14 [i.2, e.2] 0 (st.c7 l) (n.now l).pos)
 else
  let e := kj l (n.want l [61])
  mc l e.1 (nd 13 [e.2] 0 (st.c7 l) p)
inductive PC where
 | stmt
 | block
 | ll (out : List Int)
 | uy (out : List Int)
 | func
 | ve (out : List Int)
def Jh (x : RS × Int) : RS × List Int := (x.1, [x.2])
def xU (st : RS) (d : Nd) : Option (RS × List Int) := some (st.put d, [st.iI d])
def Xk (l : List Tok) (go : RS -> Option (RS × List Int)) (p : Nat) (st : RS) : Option (RS × List Int) :=
 let e := kj l st
 (go e.1).bind fun b => if b.1.is l P3 then (go b.1.next).bind fun c => xU c.1 (nd 15 (e.2 :: b.2 ++ c.2) 0 [] p) else xU b.1 (nd 15 (e.2 :: b.2) 0 [] p)
def DV (l : List Tok) (go : RS -> Option (RS × List Int)) (p : Nat) (st : RS) : Option (RS × List Int) :=
 let e := kj l st
 (go e.1).bind fun b => xU b.1 (nd 16 (e.2 :: b.2) 0 [] p)
def RU (l : List Tok) (go : RS -> Option (RS × List Int)) (st : RS) : Option (RS × List Int) :=
 let e := kj l ((st.name l).want l [61])
 let f := kj l (e.1.want l [44])
 (go f.1).bind fun b => xU b.1 (nd 17 (e.2 :: f.2 :: b.2) 0 (st.c7 l) (st.now l).pos)
def oG (l : List Tok) : Nat -> PC -> RS -> Option (RS × List Int)
 | 0, _, _ => none
 | k + 1, .stmt, st =>
  let p := (st.now l).pos
  if st.is l Og then some (Jh (EE l st.next))
  else if st.is l Wi then Xk l (oG l k .block) p st.next
  else if st.is l AG then DV l (oG l k .block) p st.next
  else if st.is l Oh then RU l (oG l k .block) st.next
  else if st.is l AH then some (Jh (mc l st.next (nd 18 [] 0 [] p)))
  else if st.is l oS then some (Jh (mc l st.next (nd 19 [] 0 [] p)))
  else if st.is l vC then some (Jh (qp l 20 p st.next))
  else if st.is l DY then some (Jh (qp l 21 p st.next))
  else some (Jh (lR l st))
 | k + 1, .block, st =>
  let p : Int := (st.now l).pos
  if st.is l [123] then
   if (st.next.open p).fe = 0 then (oG l k (.ll []) (st.next.open p)).bind fun b => xU b.1.close (nd 23 b.2 0 [] p)
   else some (st.next.open p, [-1])
  else some (st.fail 8 p, [-1])
 | k + 1, .ll out, st =>
  if st.is l [125] then some (st.next, out)
  else (oG l k .stmt st).bind fun b => if b.1.fe = 0 then oG l k (.ll (out ++ b.2)) b.1 else some (b.1, out ++ b.2)
 | k + 1, .uy out, st =>
  if st.fe = 0 then
   let p : Int := (st.now l).pos
   let s1 := if out.length = 8 then (st.name l).fail 3 p else st.name l
   let kd := ly l s1
   let d := nd 24 [] kd.2 (st.c7 l) p
   if (kd.1.put d).is l [44] then oG l k (.uy (out ++ [kd.1.iI d])) (kd.1.put d).next else some (kd.1.put d, out ++ [kd.1.iI d])
  else some (st, out)
 | k + 1, .func, st =>
  let s0 := st.want l BK
  let s1 := (s0.name l).want l [40]
  (if s1.is l [41] then some (s1, []) else oG l k (.uy []) s1).bind fun a =>
   let kd := ly l (a.1.want l [41])
   (oG l k .block kd.1).bind fun b => xU b.1 (nd 25 (a.2 ++ b.2) kd.2 (s0.c7 l) (s0.now l).pos)
 | k + 1, .ve out, st =>
  if st.fe = 0 /\ (st.now l).kind ≠ 0 then
   let s0 := if out.length = 200 /\ st.is l BK then st.fail 3 (st.now l).pos else st
   (oG l k .func s0).bind fun b => if b.1.fe = 0 then oG l k (.ve (out ++ b.2)) b.1 else some (b.1, out ++ b.2)
  else some (st, out)
def PC.bn : PC -> Nat
 | .stmt => 1 | .block => 0 | .ll _ => 2 | .uy _ => 0 | .func => 1 | .ve _ => 2
def PC.may (st : RS) : PC -> Prop
 | .ll out => st.fe = 0 /\ out.length <= st.pos
 | .uy out => out.length <= 8
 | .ve out => out.length <= st.pos
 | _ => True
def PC.T4 (s1 : RS) : PC -> List Int -> Prop
 | .ll _, r => r.length <= s1.pos + 1
 | .uy _, r => r.length <= 9
 | .ve _, r => r.length <= s1.pos + 1
 | _, r => r.length = 1
def PC.more (st s1 : RS) : PC -> Prop
 | .stmt => s1.fe = 0 -> st.pos < s1.pos
 | .func => s1.fe = 0 -> st.pos < s1.pos
 | _ => True
section
variable {l : List Tok} {st s1 : RS}
theorem lh (ht : bT l) (hp : st.pos < l.length) : ∃ k r, jz l k .expr st = some ((kj l st).1, r) /\ 8 * (l.length - st.pos) + gU.expr.bn < k /\ (kj l st).2 = r.headD 0 /\ Gr l st (kj l st).1 /\ r.length = 1 := by
 obtain ⟨s1, r, e, g, a, _⟩ := go_ok ht (8 * (l.length - st.pos) + 5) .expr st hp (by simp only [gU.bn]; omega) trivial
 have q : kj l st = (s1, r.headD 0) := by unfold kj; rw [e]
 exact ⟨_, r, by rw [q]; exact e, by simp only [gU.bn]; omega, by rw [q], by rw [q]; exact g, a⟩
theorem EL (ht : bT l) (hp : st.pos < l.length) (a z : cm) : ∃ k r, jz l k (.inner a z) st = some ((CR l a z st).1, r) /\ 8 * (l.length - st.pos) + (gU.inner a z).bn < k /\ (CR l a z st).2 = r.headD 0 /\ Gr l st (CR l a z st).1 /\ r.length = 1 := by
 obtain ⟨s1, r, e, g, ar, _⟩ := go_ok ht (8 * (l.length - st.pos) + 1) (.inner a z) st hp (by simp only [gU.bn]; omega) trivial
 have q : CR l a z st = (s1, r.headD 0) := by unfold CR; rw [e]
 exact ⟨_, r, by rw [q]; exact e, by simp only [gU.bn]; omega, by rw [q], by rw [q]; exact g, ar⟩
theorem Ix (ht : bT l) (hp : st.pos < l.length) : ∃ k, jz l k .args st = some ((xj l st).1, (xj l st).2) /\ 8 * (l.length - st.pos) + gU.args.bn < k /\ Gr l st (xj l st).1 /\ (xj l st).2.length <= 9 := by
 obtain ⟨s1, r, e, g, ar, _⟩ := go_ok ht (8 * (l.length - st.pos) + 1) .args st hp (by simp only [gU.bn]; omega) trivial
 have q : xj l st = (s1, r) := by unfold xj; rw [e]
 exact ⟨_, by rw [q]; exact e, by simp only [gU.bn]; omega, by rw [q]; exact g, by rw [q]; exact ar⟩
theorem TP (h : st.fe ≠ 0) {e p : Int} : st.fail e p = st := if_neg h
theorem Qx (h : st.fe ≠ 0) {d : Nd} : st.put d = st := by
 have h0 : st.pQ d = st := by
  unfold RS.pQ; split
  ·exact TP h
  ·rfl
 unfold RS.put; rw [h0]; exact if_neg h
theorem oC {d : Nd} : (st.put d).pos = st.pos := by unfold RS.put RS.pQ; split <;> split <;> first | rfl | exact c9.1
theorem xN {d : Nd} (h : (st.put d).fe = 0) : st.fe = 0 := B9 fun q => q (by rwa [Qx q] at h)
theorem Gr.lay (h : Gr l st s1) (h1 : s1.fe = 0 -> s1.tree.length + st.pos + 1 <= st.tree.length + s1.pos) {d : Nd} : Gr l st (s1.put d) := by
 by_cases q : s1.fe = 0
 ·exact h.put (h1 q)
 ·rw [Qx q]; exact h
theorem Gr.name (ht : bT l) (h : st.pos < l.length) : Gr l st (st.name l) := by
 unfold RS.name; split
 ·rename_i q; exact .next (qq ht h (by have := q.2; omega))
 ·exact .fail h (by decide)
theorem CL : (st.name l).tree = st.tree /\ (st.name l).deep = st.deep /\ ((st.name l).fe = 0 -> (st.name l).pos = st.pos + 1) := by
 unfold RS.name; split
 ·exact ⟨rfl, rfl, fun _ => rfl⟩
 ·exact ⟨c9.2.2.1, c9.2.1, fun q => absurd q (ey (by decide))⟩
theorem Cb {s : cm} : (st.want l s).fe = 0 -> (st.want l s).pos = st.pos + 1 := by
 unfold RS.want; split
 ·exact fun _ => rfl
 ·exact fun q => absurd q (ey (by decide))
theorem py (ht : bT l) (h : st.pos < l.length) : Gr l st (ly l st).1 /\ (ly l st).1.tree = st.tree /\ 0 <= (ly l st).2 /\ (ly l st).2 <= 3 := by
 unfold ly
 split
 ·rename_i q; exact ⟨.next (is_lt ht h q), rfl, by simp, by simp⟩
 ·split
  ·rename_i q; exact ⟨.next (is_lt ht h q), rfl, by simp, by simp⟩
  ·split
   ·rename_i q; exact ⟨.next (is_lt ht h q), rfl, by simp, by simp⟩
   ·exact ⟨.fail h (by decide), c9.2.2.1, by simp, by simp⟩
theorem oM (ht : bT l) (g : Gr l st s1) (d : Nd) : Gr l st (mc l s1 d).1 /\ ((mc l s1 d).1.fe = 0 -> st.pos < (mc l s1 d).1.pos) := by
 have gw := Gr.want ht g.pl (s := [59])
 refine ⟨(g.trans gw).lay fun q => ?_, fun q => ?_⟩
 ·have h1 := Cb q
  have h2 := g.t
  rw [rq.2]; omega
 ·have h1 := Cb (xN q)
  have h2 := g.p
  show st.pos < (RS.put _ d).pos
  rw [oC]; omega
theorem M8 (ht : bT l) (hp : st.pos < l.length) : Gr l st (EE l st).1 /\ ((EE l st).1.fe = 0 -> st.pos < (EE l st).1.pos) := by
 have g1 := Gr.name ht hp
 have g2 := g1.trans (Gr.want ht g1.pl (s := [61]))
 obtain ⟨_, _, _, _, _, g3, _⟩ := lh ht g2.pl
 exact oM ht (g2.trans g3) _
theorem CG (ht : bT l) (hp : st.pos < l.length) (kind : Int) (p : Nat) : Gr l st (qp l kind p st).1 /\ ((qp l kind p st).1.fe = 0 -> st.pos < (qp l kind p st).1.pos) := by
 obtain ⟨_, _, _, _, _, g3, _⟩ := lh ht hp
 exact oM ht g3 _
theorem Gv (ht : bT l) (hp : st.pos < l.length) : Gr l st (lR l st).1 /\ ((lR l st).1.fe = 0 -> st.pos < (lR l st).1.pos) := by
 have g1 := Gr.name ht hp
 obtain ⟨n1, n2, n3⟩ := CL (st := st) (l := l)
 unfold lR;simp only
 split
 ·rename_i q
  obtain ⟨_, _, _, g2, _⟩ := Ix ht g1.pl
  refine oM ht ((g1.trans g2).lay fun w => ?_) _
  have h1 := n3 q.1
  have h2 := g2.t
  rw [n1] at h2;omega
 ·split
  ·obtain ⟨_, _, _, _, _, g2, _⟩ := EL ht g1.pl [91] [93]
   have g3 := (g1.trans g2).trans (Gr.want ht g2.pl (s := [61]))
   obtain ⟨_, _, _, _, _, g4, _⟩ := lh ht g3.pl
   exact oM ht (g3.trans g4) _
  ·have g3 := g1.trans (Gr.want ht g1.pl (s := [61]))
   obtain ⟨_, _, _, _, _, g4, _⟩ := lh ht g3.pl
   exact oM ht (g3.trans g4) _
end
theorem lf {l : List Tok} (ht : bT l) : ∀ (k : Nat) (c : PC) (st : RS), st.pos < l.length -> 8 * (l.length - st.pos) + c.bn < k -> c.may st -> ∃ s1 r, oG l k c st = some (s1, r) /\ Gr l st s1 /\ c.T4 s1 r /\ c.more st s1 := by
 intro k
 induction k with
 | zero => intro c st hp hk; omega
 | succ k ih =>
  intro c st hp hk hm
  cases c with
  | stmt =>
   have tk : ∀ {x : RS × Int}, st.pos + 1 < l.length -> (Gr l st.next x.1 /\ (x.1.fe = 0 -> st.next.pos < x.1.pos)) -> ∃ s1 r, some (Jh x) = some (s1, r) /\ Gr l st s1 /\ PC.T4 s1 .stmt r /\ PC.more st s1 .stmt := by
    intro x hn ⟨g, q⟩
    exact ⟨_, _, rfl, (Gr.next hn).trans g, rfl, fun w => by have := q w; simp only [RS.next] at this; omega⟩
   -- a block behind tokens Oo aeP taken
   have dj : ∀ {s0 : RS}, st.pos + 1 < l.length -> Gr l st.next s0 -> ∃ s1 r, oG l k .block s0 = some (s1, r) /\ Gr l st.next s1 /\ r.length = 1 := by
    intro s0 hn g
    obtain ⟨s1, r, e, g1, a, _⟩ := ih .block s0 g.pl (by have := g.p; simp only [PC.bn, RS.next] at *; omega) trivial
    exact ⟨s1, r, e, g.trans g1, a⟩
   have lay : ∀ {s0 : RS} (d : Nd), st.pos + 1 < l.length -> Gr l st.next s0 -> ∃ s1 r, xU s0 d = some (s1, r) /\ Gr l st s1 /\ PC.T4 s1 .stmt r /\ PC.more st s1 .stmt := by
    intro s0 d hn g
    refine ⟨_, _, rfl, ((Gr.next hn).trans g).lay fun _ => ?_, rfl, fun w => ?_⟩
    ·have := g.t; simp only [RS.next] at this; omega
    ·rw [oC]; have := g.p; simp only [RS.next] at this; omega
   simp only [oG]
   split
   ·rename_i q; have hn := is_lt ht hp q; exact tk hn (M8 ht hn)
   ·split
    ·rename_i q; have hn := is_lt ht hp q
     obtain ⟨_, _, _, _, _, ge, _⟩ := lh (st := st.next) ht hn
     obtain ⟨s1, r, e, g, a⟩ := dj hn ge
     simp only [Xk, e, Option.bind_some]
     split
     ·rename_i q2
      obtain ⟨s2, r2, e2, g2, a2⟩ := dj hn (g.trans (.next (is_lt ht g.pl q2)))
      simp only [e2, Option.bind_some];exact lay _ hn g2
     ·exact lay _ hn g
    ·split
     ·rename_i q; have hn := is_lt ht hp q
      obtain ⟨_, _, _, _, _, ge, _⟩ := lh (st := st.next) ht hn
      obtain ⟨s1, r, e, g, a⟩ := dj hn ge
      simp only [DV, e, Option.bind_some];exact lay _ hn g
     ·split
      ·rename_i q; have hn := is_lt ht hp q
       have g1 : Gr l st.next (st.next.name l) := Gr.name ht hn
       have g2 := g1.trans (Gr.want ht g1.pl (s := [61]))
       obtain ⟨_, _, _, _, _, ge, _⟩ := lh ht g2.pl
       have g3 := g2.trans ge
       have g4 := g3.trans (Gr.want ht g3.pl (s := [44]))
       obtain ⟨_, _, _, _, _, gf, _⟩ := lh ht g4.pl
       obtain ⟨s1, r, e, g, a⟩ := dj hn (g4.trans gf)
       simp only [RU, e, Option.bind_some];exact lay _ hn g
      ·split
       ·rename_i q; have hn := is_lt ht hp q; exact tk hn (oM ht (.refl hn) _)
       ·split
        ·rename_i q; have hn := is_lt ht hp q; exact tk hn (oM ht (.refl hn) _)
        ·split
         ·rename_i q; have hn := is_lt ht hp q; exact tk hn (CG ht hn _ _)
         ·split
          ·rename_i q; have hn := is_lt ht hp q; exact tk hn (CG ht hn _ _)
          ·obtain ⟨g, q⟩ := Gv ht hp
           exact ⟨_, _, rfl, g, rfl, q⟩
  | block =>
   simp only [oG]
   split
   ·rename_i q
    have hn := is_lt ht hp q
    have go := Gr.open hn (p := ((st.now l).pos : Int))
    obtain ⟨o1, o2, o3⟩ := lM (st := st.next) (p := ((st.now l).pos : Int))
    split
    ·rename_i qf
     obtain ⟨s1, r, e, g, a, _⟩ := ih (.ll []) (st.next.open (st.now l).pos) go.pl (by rw [o1]; simp only [PC.bn, RS.next] at *; omega) ⟨qf, kW _⟩
     have g1 := (go.trans g).close (by have := g.d0; rw [o2] at this; simp only [RS.next] at this; exact this)
     refine ⟨_, _, by simp only [e, Option.bind_some]; rfl, g1.lay fun _ => ?_, by rfl, trivial⟩
     have := g.t; rw [o1, o3] at this; simp only [RS.next, RS.close] at *; omega
    ·exact ⟨_, _, rfl, go, rfl, trivial⟩
   ·exact ⟨_, _, rfl, .fail hp (by decide), rfl, trivial⟩
  | ll out =>
   obtain ⟨hf, hm⟩ := hm
   simp only [oG]
   split
   ·rename_i q
    exact ⟨_, _, rfl, .next (is_lt ht hp q), by show out.length <= _; simp only [RS.next]; omega, trivial⟩
   ·obtain ⟨s1, r, e, g, a, mo⟩ := ih .stmt st hp (by simp only [PC.bn] at *; omega) trivial
    have a : r.length = 1 := a
    simp only [e, Option.bind_some]
    split
    ·rename_i q
     have bg := mo q
     obtain ⟨s2, r2, e2, g2, a2, _⟩ := ih (.ll (out ++ r)) s1 g.pl (by simp only [PC.bn] at *; omega) ⟨q, by rw [kL, a]; omega⟩
     exact ⟨_, _, e2, g.trans g2, a2, trivial⟩
    ·exact ⟨_, _, rfl, g, by show (out ++ r).length <= _; rw [kL, a]; have := g.p; omega, trivial⟩
  | uy out =>
   have hm : out.length <= 8 := hm
   simp only [oG]
   split
   ·rename_i qf
    have g1 := Gr.name ht hp
    obtain ⟨n1, n2, n3⟩ := CL (st := st) (l := l)
    have g0 : Gr l st (if out.length = 8 then (st.name l).fail 3 (st.now l).pos else st.name l) := by
     split
     ·exact g1.trans (.fail g1.pl (by decide))
     ·exact g1
    have t0 : (if out.length = 8 then (st.name l).fail 3 (st.now l).pos else st.name l).tree = st.tree := by
     split
     ·rw [c9.2.2.1, n1]
     ·exact n1
    have f0 : (if out.length = 8 then (st.name l).fail 3 (st.now l).pos else st.name l).fe = 0 -> out.length < 8 /\ st.pos + 1 <= (if out.length = 8 then (st.name l).fail 3 (st.now l).pos else st.name l).pos := by
     split
     ·exact fun q => absurd q (ey (by decide))
     ·intro w; exact ⟨by omega, by rw [n3 w]; exact eX _⟩
    generalize (if out.length = 8 then (st.name l).fail 3 (st.now l).pos else st.name l) = s0 at *
    obtain ⟨g2, t2, _, _⟩ := py ht g0.pl
    have g3 := (g0.trans g2).lay (d := nd 24 [] (ly l s0).2 (st.c7 l) (st.now l).pos) fun w => by
     have := f0 (g2.f w); have := g2.p; rw [t2, t0]; omega
    split
    ·rename_i q
     have hn := is_lt ht g3.pl q
     have hf := f0 (g2.f (xN q.1))
     obtain ⟨s2, r2, e2, g4, a2, _⟩ := ih (.uy (out ++ [(ly l s0).1.iI (nd 24 [] (ly l s0).2 (st.c7 l) (st.now l).pos)])) ((ly l s0).1.put (nd 24 [] (ly l s0).2 (st.c7 l) (st.now l).pos)).next hn (by have := g3.p; simp only [PC.bn, RS.next] at *; omega) (by show (out ++ [_]).length <= 8; rw [kL, List.length_singleton]; omega)
     exact ⟨_, _, e2, g3.trans ((Gr.next hn).trans g4), a2, trivial⟩
    ·exact ⟨_, _, rfl, g3, by show (out ++ [_]).length <= 9; rw [kL, List.length_singleton]; omega, trivial⟩
   ·exact ⟨_, _, rfl, .refl hp, by show out.length <= 9; omega, trivial⟩
  | func =>
   simp only [oG];have g0 := Gr.want ht hp (s := BK)
   have w0 := Cb (st := st) (l := l) (s := BK)
   have d0 := (rq (st := st) (l := l) (s := BK)).2
   generalize st.want l BK = s0 at *
   have g1 : Gr l s0 (s0.name l) := Gr.name ht g0.pl
   have g2 : Gr l s0 ((s0.name l).want l [40]) := g1.trans (Gr.want ht g1.pl)
   generalize (s0.name l).want l [40] = s1 at *
   have Vw : ∃ s2 r, (if s1.is l [41] then some (s1, []) else oG l k (.uy []) s1) = some (s2, r) /\ Gr l s1 s2 /\ r.length <= 9 := by
    split
    ·exact ⟨_, _, rfl, .refl g2.pl, kW _⟩
    ·obtain ⟨s2, r2, e2, g4, a2, _⟩ := ih (.uy []) s1 g2.pl (by have := g0.p; have := g2.p; simp only [PC.bn] at *; omega) (kW _)
     exact ⟨_, _, e2, g4, a2⟩
   obtain ⟨s2, r, e, g3, _⟩ := Vw
   simp only [e, Option.bind_some];have g4 := (g2.trans g3).trans (Gr.want ht g3.pl (s := [41]))
   obtain ⟨g5, _⟩ := py ht g4.pl
   have g6 := g4.trans g5
   obtain ⟨s5, r5, e5, g7, a5, _⟩ := ih .block (ly l (s2.want l [41])).1 g6.pl (by have := g0.p; have := g6.p; simp only [PC.bn] at *; omega) trivial
   simp only [e5, Option.bind_some];have g8 := g6.trans g7
   refine ⟨_, _, rfl, (g0.trans g8).lay fun q => ?_, rfl, fun q => ?_⟩
   ·have h1 := w0 (g8.f q); have := g8.t; rw [d0] at this; omega
   ·have h1 := w0 (g8.f (xN q)); rw [oC]; have := g8.p; omega
  | ve out =>
   have hm : out.length <= st.pos := hm
   simp only [oG]
   split
   ·rename_i qf
    have g0 : Gr l st (if out.length = 200 /\ st.is l BK then st.fail 3 (st.now l).pos else st) := by
     split
     ·exact .fail hp (by decide)
     ·exact .refl hp
    have p0 : (if out.length = 200 /\ st.is l BK then st.fail 3 (st.now l).pos else st).pos = st.pos := by
     split
     ·exact c9.1
     ·rfl
    generalize (if out.length = 200 /\ st.is l BK then st.fail 3 (st.now l).pos else st) = s0 at *
    obtain ⟨s1, r, e, g, a, mo⟩ := ih .func s0 g0.pl (by rw [p0]; simp only [PC.bn] at *; omega) trivial
    have a : r.length = 1 := a
    simp only [e, Option.bind_some];have g1 := g0.trans g
    split
    ·rename_i q
     have bg := mo q
     rw [p0] at bg;obtain ⟨s2, r2, e2, g2, a2, _⟩ := ih (.ve (out ++ r)) s1 g.pl (by simp only [PC.bn] at *; omega) (by show (out ++ r).length <= _; rw [kL, a]; omega)
     exact ⟨_, _, e2, g1.trans g2, a2, trivial⟩
    ·exact ⟨_, _, rfl, g1, by show (out ++ r).length <= _; rw [kL, a]; have := g1.p; omega, trivial⟩
   ·refine ⟨_, _, rfl, .refl hp, ?_, trivial⟩
    show out.length <= st.pos + 1
    omega
end
section
theorem count_range (n : Nat) (a : Int) : ((List.range n).map (fun i : Nat => (i : Int))).count a = JJ 0 n a := by
 induction n with
 | zero => simp [JJ]
 | succ n ih =>
  rw [List.range_succ, List.map_append, List.count_append, ih, rQ (b := n) (kW _) (Nat.le_succ _), HU]
  rfl
theorem Ra {l : List Tok} {tr : List Nd} {d : Nd} (h : So l d) (hk : ∀ x ∈ d.kids, kC (kindOf tr x)) : cD tr d := by
 have k1 := h.kind
 have kn := h.kn
 have ex : ∀ n, n <= d.kids.length -> iY tr d.kids n := fun n hn => ⟨hn, fun x hx => hk x (List.mem_of_mem_take hx)⟩
 unfold cD;have bg : d.kind < 12 := by have := k1.2; omega
 by_cases c1 : d.kind = 5 \/ d.kind = 8
 ·rw [if_pos c1] at kn
  rw [if_pos (by rcases c1 with c | c <;> simp [c])]
  exact ⟨kn, ex 2 (by omega)⟩
 ·rw [if_neg c1] at kn
  rw [if_neg (by omega)];by_cases c2 : d.kind = 6 \/ d.kind = 7 \/ d.kind = 9 \/ d.kind = 10
  ·rw [if_pos c2] at kn
   rw [if_pos (by rcases c2 with c | c | c | c <;> simp [c])]
   exact ⟨kn, ex 1 (by omega)⟩
  ·rw [if_neg c2] at kn
   rw [if_neg (by omega)];by_cases c3 : d.kind = 11
   ·rw [if_pos c3] at kn
    rw [if_pos c3];exact ⟨kn, ex _ (eX _)⟩
   ·rw [if_neg c3] at kn
    rw [if_neg c3, if_neg (by omega), if_neg (by omega), if_neg (by omega), if_neg (by omega), if_neg (by omega), if_neg (by omega), if_neg (by omega)];exact kn
theorem Bw {tr YE : List Nd} {d : Nd} (h : ∀ z ∈ d.kids, kindOf tr z = kindOf YE z) (hk : cD tr d) : cD YE d := by
 have ex : ∀ n, iY tr d.kids n -> iY YE d.kids n := fun n q => ⟨q.1, fun x hx => by rw [<- h x (List.mem_of_mem_take hx)]; exact q.2 x hx⟩
 have al : ∀ (ks : List Int) (K : Int) (n : Nat), (∀ x ∈ ks, x ∈ d.kids) -> ui tr ks K n -> ui YE ks K n := fun ks K n hs q => ⟨fun x hx => by rw [<- h x (hs x hx)]; exact q.1 x hx, q.2⟩
 unfold cD at hk ⊢
 by_cases c : d.kind = 5 \/ d.kind = 8 \/ d.kind = 14
 ·rw [if_pos c] at hk ⊢; exact ⟨hk.1, ex _ hk.2⟩
 rw [if_neg c] at hk ⊢; clear c
 by_cases c : d.kind = 6 \/ d.kind = 7 \/ d.kind = 9 \/ d.kind = 10 \/ d.kind = 12 \/ d.kind = 13 \/ d.kind = 20 \/ d.kind = 21
 ·rw [if_pos c] at hk ⊢; exact ⟨hk.1, ex _ hk.2⟩
 rw [if_neg c] at hk ⊢; clear c
 by_cases c : d.kind = 11
 ·rw [if_pos c] at hk ⊢; exact ⟨hk.1, ex _ hk.2⟩
 rw [if_neg c] at hk ⊢; clear c
 by_cases c : d.kind = 15
 ·rw [if_pos c] at hk ⊢; exact ⟨⟨ex _ hk.1.1, hk.1.2⟩, al _ _ _ (fun x => List.mem_of_mem_drop) hk.2⟩
 rw [if_neg c] at hk ⊢; clear c
 by_cases c : d.kind = 16
 ·rw [if_pos c] at hk ⊢; exact ⟨⟨ex _ hk.1.1, hk.1.2⟩, al _ _ _ (fun x => List.mem_of_mem_drop) hk.2⟩
 rw [if_neg c] at hk ⊢; clear c
 by_cases c : d.kind = 17
 ·rw [if_pos c] at hk ⊢; exact ⟨⟨ex _ hk.1.1, hk.1.2⟩, al _ _ _ (fun x => List.mem_of_mem_drop) hk.2⟩
 rw [if_neg c] at hk ⊢; clear c
 by_cases c : d.kind = 22
 ·rw [if_pos c] at hk ⊢; exact ⟨hk.1, fun x hx => by rw [<- h x hx]; exact hk.2 x hx⟩
 rw [if_neg c] at hk ⊢; clear c
 by_cases c : d.kind = 23
 ·rw [if_pos c] at hk ⊢; exact fun x hx => by rw [<- h x hx]; exact hk x hx
 rw [if_neg c] at hk ⊢; clear c
 by_cases c : d.kind = 25
 ·rw [if_pos c] at hk ⊢; exact ⟨⟨hk.1.1, al _ _ _ (fun x => List.mem_of_mem_take) hk.1.2⟩, fun x hx => by rw [<- h x (List.mem_of_mem_getLast? hx)]; exact hk.2 x hx⟩
 rw [if_neg c] at hk ⊢; clear c
 by_cases c : d.kind = 26
 ·rw [if_pos c] at hk ⊢; exact al _ _ _ (fun x hx => hx) hk
 rw [if_neg c] at hk ⊢; exact hk
structure IE (l : List Tok) (tr : List Nd) (d : Nd) : Prop where
 own : BO d
 kids : cD tr d
 pos : ∃ t ∈ l, d.pos = (t.pos : Int)
def ef (tr : List Nd) (x : Int) (K : Int -> Prop) : Prop := 0 <= x /\ x < (tr.length : Int) /\ K (kindOf tr x)
theorem xV {tr n : List Nd} {x : Int} (h0 : 0 <= x) (h : x < (tr.length : Int)) : kindOf (tr ++ n) x = kindOf tr x := by
 unfold kindOf; rw [B8 (by omega)]
theorem ef.app {tr n : List Nd} {x : Int} {K : Int -> Prop} (h : ef tr x K) : ef (tr ++ n) x K :=
 ⟨h.1, by rw [kL]; have := h.2.1; omega, by rw [xV h.1 h.2.1]; exact h.2.2⟩
structure PP (l : List Tok) (st s1 : RS) (r : List Int) : Prop where
 inv : TI l s1
 ok : s1.fe = 0 -> st.fe = 0 /\ ∃ new, s1.tree = st.tree ++ new /\ (∀ d ∈ new, IE l s1.tree d) /\ ∀ a, E8 new a + r.count a = JJ st.tree.length s1.tree.length a
section
variable {l : List Tok} {st st' s1 K3 s2 : RS} {r r' : List Int} {K : Int -> Prop} {x : Int}
theorem PP.val (h : PP l st s1 r) (hf : s1.fe = 0) (hx : x ∈ r) : (st.tree.length : Int) <= x /\ x < (s1.tree.length : Int) := by
 obtain ⟨_, new, hn, _, hc⟩ := h.ok hf
 have h1 := hc x
 have h2 : 0 < r.count x := List.count_pos_iff.2 hx
 unfold JJ at h1
 split at h1
 ·assumption
 ·omega
theorem PP.grow (h : PP l st s1 r) (hf : s1.fe = 0) : st.fe = 0 /\ ∃ n, s1.tree = st.tree ++ n := by
 obtain ⟨h0, new, hn, _⟩ := h.ok hf; exact ⟨h0, new, hn⟩
theorem ef.pp (k : ef s1.tree x K) (h : PP l s1 s2 r) (hf : s2.fe = 0) : ef s2.tree x K := by
 obtain ⟨_, n, hn⟩ := h.grow hf; rw [hn]; exact k.app
theorem PP.refl (h : TI l st) : PP l st st [] := ⟨h, fun q => ⟨q, [], by simp, by simp, fun a => by rw [Kh, JI]; rfl⟩⟩
theorem PP.bad (h : TI l s1) (h0 : s1.fe ≠ 0) : PP l st s1 r := ⟨h, fun q => absurd q h0⟩
theorem PP.Bc (h : PP l st s1 r) (hi : TI l K3) (h0 : st.fe = 0 -> st'.fe = 0 /\ st'.tree = st.tree) (h2 : K3.fe = 0 -> s1.fe = 0 /\ K3.tree = s1.tree) : PP l st' K3 r := by
 refine ⟨hi, fun q => ?_⟩
 obtain ⟨q1, q2⟩ := h2 q
 obtain ⟨p0, n1, e1, d1, c1⟩ := h.ok q1
 obtain ⟨p1, p2⟩ := h0 p0
 exact ⟨p1, n1, by rw [q2, p2, e1], by rw [q2]; exact d1, fun a => by rw [q2, p2]; exact c1 a⟩
theorem PP.to (h : PP l st s1 r) (hi : TI l K3) (h2 : K3.fe = 0 -> s1.fe = 0 /\ K3.tree = s1.tree) : PP l st K3 r := h.Bc hi (fun q => ⟨q, rfl⟩) h2
theorem Gt {n1 : List Nd} {tr n : List Nd} (hk : l6 tr) {d : Nd} (hd : d ∈ tr) (h : IE l tr d) : IE l (tr ++ n) d := by
 refine ⟨h.own, Bw (fun z hz => ?_) h.kids, h.pos⟩
 obtain ⟨i, hi⟩ := List.mem_iff_getElem?.1 hd
 have h1 := hk i d hi z hz
 have h2 := (rn.1 hi).1
 rw [xV h1.1 (by omega)]
theorem PP.trans (h : PP l st s1 r) (h' : PP l s1 s2 r') : PP l st s2 (r ++ r') := by
 refine ⟨h'.inv, fun q => ?_⟩
 obtain ⟨h1, n2, e2, d2, c2⟩ := h'.ok q
 obtain ⟨h0, n1, e1, d1, c1⟩ := h.ok h1
 refine ⟨h0, n1 ++ n2, by rw [e2, e1, List.append_assoc], fun d hd => ?_, fun a => ?_⟩
 ·rcases uD.1 hd with hd | hd
  ·rw [e2]; exact Gt (n1 := []) (h.inv.t h1).lt (by rw [e1]; exact List.mem_append_right _ hd) (d1 d hd)
  ·exact d2 d hd
 ·have := c1 a; have := c2 a
  have l1 : s1.tree.length = st.tree.length + n1.length := by rw [e1, kL]
  have l2 : s2.tree.length = s1.tree.length + n2.length := by rw [e2, kL]
  rw [Af, rQ (b := s1.tree.length) (by omega) (by omega), List.count_append];omega
theorem PP.put {d : Nd} (h : PP l st s1 r) (hp : ∃ t ∈ l, d.pos = (t.pos : Int)) (hd : s1.fe = 0 -> BO d /\ cD s1.tree d) (hk : ∀ a, d.kids.count a = r.count a) :
  PP l st (s1.put d) [s1.iI d] /\ ((s1.put d).fe = 0 -> s1.fe = 0 /\ ef (s1.put d).tree (s1.iI d) (· = d.kind)) := by
 have ER : s1.fe = 0 -> ∀ z ∈ d.kids, 0 <= z /\ z < (s1.tree.length : Int) := fun q z hz => by
  have h2 : 0 < d.kids.count z := List.count_pos_iff.2 hz
  rw [hk z] at h2;have := h.val q (List.count_pos_iff.1 h2)
  omega
 obtain ⟨g1, g2⟩ := ML (st := s1) h.inv hp ER
 refine ⟨⟨g1, fun q => ?_⟩, fun q => ?_⟩
 ·obtain ⟨p0, p1, p2⟩ := g2 q
  obtain ⟨h0, new, hn, dn, hc⟩ := h.ok p0
  have hlen : s1.tree.length = st.tree.length + new.length := by rw [hn, kL]
  refine ⟨h0, new ++ [d], by rw [p1, hn, List.append_assoc], fun e he => ?_, fun a => ?_⟩
  ·rw [p1]
   rcases uD.1 he with he | he
   ·exact Gt (n1 := []) (h.inv.t p0).lt (by rw [hn]; exact List.mem_append_right _ he) (dn e he)
   ·rw [yl.1 he]
    exact ⟨(hd p0).1, Bw (fun z hz => by have := ER p0 z hz; rw [xV this.1 this.2]) (hd p0).2, hp⟩
  ·rw [Af, Kg, hk, p2, p1, kL, List.length_singleton, rQ (b := s1.tree.length) (by omega) (by omega), HU]
   have := hc a
   omega
 ·obtain ⟨p0, p1, p2⟩ := g2 q
  refine ⟨p0, ?_⟩
  rw [p1, p2];refine ⟨by omega, by rw [kL, List.length_singleton]; omega, ?_⟩
  show kindOf _ _ = _
  unfold kindOf;rw [Int.toNat_natCast, FF (eX _), Nat.sub_self]; rfl
theorem PP.of (h : iL l [] st s1 r) : PP l st s1 r /\ (s1.fe = 0 -> ∀ x ∈ r, ef s1.tree x kC) := by
 have key : s1.fe = 0 -> ∀ a, 0 < JJ st.tree.length s1.tree.length a -> ef s1.tree a kC := by
  intro q a ha
  obtain ⟨h0, new, hn, dn, hc⟩ := h.ok q
  unfold JJ at ha
  split at ha
  ·rename_i hr
   have bg : a.toNat < s1.tree.length := by omega
   refine ⟨by omega, hr.2, ?_⟩
   unfold kindOf;rw [lp bg];refine (dn _ ?_).kind
   have e : s1.tree[a.toNat]? = new[a.toNat - st.tree.length]? := by rw [hn, FF (by omega)]
   rw [lp bg] at e;exact List.mem_of_getElem? e.symm
  ·omega
 refine ⟨⟨h.inv, fun q => ?_⟩, fun q x hx => key q x ?_⟩
 ·obtain ⟨h0, new, hn, dn, hc⟩ := h.ok q
  refine ⟨h0, new, hn, fun d hd => ⟨(dn d hd).own, Ra (dn d hd) fun z hz => (key q z ?_).2.2, (dn d hd).pos⟩, fun a => by have := hc a; simp only [List.count_nil] at this; omega⟩
  have h1 : 0 < E8 new z := List.count_pos_iff.2 (List.mem_flatten.2 ⟨d.kids, List.mem_map.2 ⟨d, hd, rfl⟩, hz⟩)
  have := hc z; simp only [List.count_nil] at this; omega
 ·obtain ⟨h0, new, hn, dn, hc⟩ := h.ok q
  have h1 : 0 < r.count x := List.count_pos_iff.2 hx
  have := hc x; simp only [List.count_nil] at this; omega
variable (ht : bT l) (hg : ∀ t ∈ l, t.kind = 1 -> t.text ≠ [] /\ nC t.text)
include ht hg
theorem BB (hp : st.pos < l.length) (hT : TI l st) : PP l st (kj l st).1 [(kj l st).2] /\ ((kj l st).1.fe = 0 -> ef (kj l st).1.tree (kj l st).2 kC) := by
 obtain ⟨k, r, e, hk, hv, _, h1⟩ := lh ht hp
 obtain ⟨p, _⟩ := RL ht.pos hg _ _ _ _ _ e hT xl.nil trivial
 obtain ⟨y, rfl⟩ := js h1
 obtain ⟨q1, q2⟩ := PP.of p
 rw [hv];exact ⟨q1, fun q => q2 q _ (by simp)⟩
theorem Xj (hp : st.pos < l.length) (hT : TI l st) (a z : cm) : PP l st (CR l a z st).1 [(CR l a z st).2] /\ ((CR l a z st).1.fe = 0 -> ef (CR l a z st).1.tree (CR l a z st).2 kC) := by
 obtain ⟨k, r, e, hk, hv, _, h1⟩ := EL ht hp a z
 obtain ⟨p, _⟩ := RL ht.pos hg _ _ _ _ _ e hT xl.nil trivial
 obtain ⟨y, rfl⟩ := js h1
 obtain ⟨q1, q2⟩ := PP.of p
 rw [hv];exact ⟨q1, fun q => q2 q _ (by simp)⟩
theorem Yz (hp : st.pos < l.length) (hT : TI l st) : PP l st (xj l st).1 (xj l st).2 /\ ((xj l st).1.fe = 0 -> (xj l st).2.length <= 8 /\ ∀ x ∈ (xj l st).2, ef (xj l st).1.tree x kC) := by
 obtain ⟨k, e, hk, _, h1⟩ := Ix ht hp
 obtain ⟨p, n⟩ := RL ht.pos hg _ _ _ _ _ e hT xl.nil trivial
 obtain ⟨q1, q2⟩ := PP.of p
 exact ⟨q1, fun q => ⟨n q, q2 q⟩⟩
end
end
section
theorem kZ {l : List Tok} {kind n : Int} {kids : List Int} {s : cm} {p : Nat} (h1 : 1 <= kind /\ kind <= 26) (h2 : kind ∈ te ↔ s ≠ []) (h3 : s ≠ [] -> nC s) (h4 : if kind = 1 then 0 <= n else if kind = 2 then n = 0 \/ n = 1 else if kind = 5 then 1 <= n /\ n <= 16 else if kind = 24 \/ kind = 25 then 1 <= n /\ n <= 3 else n = 0) : BO (nd kind kids n s (p : Int)) := by
 refine ⟨?_, fun q => q.2 (h3 q.1), h4⟩
 rintro ((q | q) | q)
 ·simp only [nd] at q; omega
 ·simp only [nd] at q; omega
 ·exact q h2
theorem Rb {tr : List Nd} {kind x n p : Int} {s : cm} (hk : kind = 12 \/ kind = 13 \/ kind = 20 \/ kind = 21) (h : kC (kindOf tr x)) : cD tr (nd kind [x] n s p) := by
 rcases hk with rfl | rfl | rfl | rfl <;> simp [cD, nd, iY, h]
theorem Us {tr : List Nd} {kind n p : Int} {s : cm} (hk : kind = 18 \/ kind = 19 \/ kind = 24) : cD tr (nd kind [] n s p) := by
 rcases hk with rfl | rfl | rfl <;> simp [cD, nd]
theorem ef.SQ {tr : List Nd} {x k : Int} (h : ef tr x (· = k)) (hk : iR k) : ef tr x iR := ⟨h.1, h.2.1, (show kindOf tr x = k from h.2.2) ▸ hk⟩
section
variable {l : List Tok} {st s1 : RS} {r : List Int}
theorem TI.name (hl : 0 < l.length) (h : TI l st) : TI l (st.name l) := by
 unfold RS.name; split
 ·exact h.next
 ·exact h.fail (by decide) ⟨_, lP hl, rfl⟩
theorem CK (h : (st.name l).fe = 0) : st.fe = 0 /\ (st.name l).tree = st.tree /\ st.qu l := by
 unfold RS.name at h ⊢
 split at h
 ·rename_i q; rw [if_pos q]; exact ⟨h, rfl, q⟩
 ·exact absurd h (ey (by decide))
theorem TI.kd (hl : 0 < l.length) (h : TI l st) : TI l (ly l st).1 := by
 unfold ly; split
 ·exact h.next
 ·split
  ·exact h.next
  ·split
   ·exact h.next
   ·exact h.fail (by decide) ⟨_, lP hl, rfl⟩
theorem GC (h : (ly l st).1.fe = 0) : st.fe = 0 /\ (ly l st).1.tree = st.tree /\ 1 <= (ly l st).2 /\ (ly l st).2 <= 3 := by
 unfold ly at h ⊢
 split at h
 ·rename_i q; rw [if_pos q]; exact ⟨h, rfl, by simp, by simp⟩
 ·rename_i q; rw [if_neg q]
  split at h
  ·rename_i q; rw [if_pos q]; exact ⟨h, rfl, by simp, by simp⟩
  ·rename_i q; rw [if_neg q]
   split at h
   ·rename_i q; rw [if_pos q]; exact ⟨h, rfl, by simp, by simp⟩
   ·exact absurd h (ey (by decide))
theorem PP.want (hl : 0 < l.length) (h : PP l st s1 r) {s : cm} : PP l st (s1.want l s) r := h.to (h.inv.want hl) jN
theorem PP.name (hl : 0 < l.length) (h : PP l st s1 r) : PP l st (s1.name l) r := h.to (h.inv.name hl) fun q => ⟨(CK q).1, (CK q).2.1⟩
theorem PP.kd (hl : 0 < l.length) (h : PP l st s1 r) : PP l st (ly l s1).1 r := h.to (h.inv.kd hl) fun q => ⟨(GC q).1, (GC q).2.1⟩
theorem A7 (hl : 0 < l.length) (h : PP l st s1 r) {d : Nd} (hp : ∃ t ∈ l, d.pos = (t.pos : Int)) (hd : s1.fe = 0 -> BO d /\ cD s1.tree d) (hk : ∀ a, d.kids.count a = r.count a) :
  PP l st (mc l s1 d).1 [(mc l s1 d).2] /\ ((mc l s1 d).1.fe = 0 -> ef (mc l s1 d).1.tree (mc l s1 d).2 (· = d.kind)) := by
 obtain ⟨q1, q2⟩ := (h.want hl (s := [59])).put hp (fun q => by obtain ⟨a, b⟩ := jN q; rw [b]; exact hd a) hk
 exact ⟨q1, fun q => (q2 q).2⟩
variable (ht : bT l) (hg : ∀ t ∈ l, t.kind = 1 -> t.text ≠ [] /\ nC t.text)
include ht hg
theorem mO (h : (st.name l).fe = 0) : st.c7 l ≠ [] /\ nC (st.c7 l) := by
 obtain ⟨_, _, q⟩ := CK h
 unfold RS.c7; rw [if_pos q]
 exact hg _ (lP ht.pos) q.2
theorem Vg (hp : st.pos < l.length) (hT : TI l st) : PP l st (EE l st).1 [(EE l st).2] /\ ((EE l st).1.fe = 0 -> ef (EE l st).1.tree (EE l st).2 iR) := by
 have hl := ht.pos
 have g1 := Gr.name ht hp
 have g2 := g1.trans (Gr.want ht g1.pl (s := [61]))
 have p2 := ((PP.refl hT).name hl).want hl (s := [61])
 obtain ⟨q1, q2⟩ := BB ht hg g2.pl p2.inv
 have p3 := p2.trans q1
 obtain ⟨e1, e2⟩ := A7 hl p3 (d := nd 12 [(kj l ((st.name l).want l [61])).2] 0 (st.c7 l) (st.now l).pos) ⟨_, lP hl, rfl⟩ (fun q => by
  have h1 := (q1.grow q).1
  obtain ⟨h2, _⟩ := jN h1
  obtain ⟨h3, h4⟩ := mO ht hg h2
  exact ⟨kZ (l := l) ⟨by decide, by decide⟩ ⟨fun _ => h3, fun _ => by decide⟩ (fun _ => h4) rfl, Rb (.inl rfl) (q2 q).2.2⟩) (fun a => rfl)
 exact ⟨e1, fun q => (e2 q).SQ (by simp [iR, nd])⟩
theorem QE {p : Nat} (dD : ∃ t ∈ l, (p : Int) = (t.pos : Int)) {kind : Int} (hk : kind = 20 \/ kind = 21) (hp : st.pos < l.length) (hT : TI l st) : PP l st (qp l kind p st).1 [(qp l kind p st).2] /\ ((qp l kind p st).1.fe = 0 -> ef (qp l kind p st).1.tree (qp l kind p st).2 iR) := by
 have hl := ht.pos
 obtain ⟨q1, q2⟩ := BB ht hg hp hT
 obtain ⟨e1, e2⟩ := A7 hl q1 (d := nd kind [(kj l st).2] 0 [] p) dD (fun q => by
  refine ⟨?_, Rb (by omega) (q2 q).2.2⟩
  rcases hk with rfl | rfl <;> exact kZ (l := l) ⟨by decide, by decide⟩ (by decide) (fun q => absurd rfl q) rfl) (fun a => rfl)
 refine ⟨e1, fun q => (e2 q).SQ ?_⟩
 rcases hk with rfl | rfl <;> simp [iR, nd]
theorem N4 {p : Nat} (dD : ∃ t ∈ l, (p : Int) = (t.pos : Int)) {kind : Int} (hk : kind = 18 \/ kind = 19) (hT : TI l st) : PP l st (mc l st (nd kind [] 0 [] p)).1 [(mc l st (nd kind [] 0 [] p)).2] /\ ((mc l st (nd kind [] 0 [] p)).1.fe = 0 -> ef (mc l st (nd kind [] 0 [] p)).1.tree (mc l st (nd kind [] 0 [] p)).2 iR) := by
 have hl := ht.pos
 obtain ⟨e1, e2⟩ := A7 hl (PP.refl hT) (d := nd kind [] 0 [] p) dD (fun q => by
  refine ⟨?_, Us (by omega)⟩
  rcases hk with rfl | rfl <;> exact kZ (l := l) ⟨by decide, by decide⟩ (by decide) (fun q => absurd rfl q) rfl) (fun a => rfl)
 refine ⟨e1, fun q => (e2 q).SQ ?_⟩
 rcases hk with rfl | rfl <;> simp [iR, nd]
theorem QQ (hp : st.pos < l.length) (hT : TI l st) : PP l st (lR l st).1 [(lR l st).2] /\ ((lR l st).1.fe = 0 -> ef (lR l st).1.tree (lR l st).2 iR) := by
 have hl := ht.pos
 have g1 := Gr.name ht hp
 have p1 := (PP.refl hT).name hl
 have dD : ∃ t ∈ l, ((st.now l).pos : Int) = (t.pos : Int) := ⟨_, lP hl, rfl⟩
 unfold lR;simp only
 split
 ·rename_i hq
  obtain ⟨q1, q2⟩ := Yz ht hg g1.pl p1.inv
  have p2 := p1.trans q1
  have hn := mO ht hg hq.1
  obtain ⟨c1, c2⟩ := p2.put (d := nd 11 (xj l (st.name l)).2 0 (st.c7 l) (st.now l).pos) dD (fun q => by
   refine ⟨kZ (l := l) ⟨by decide, by decide⟩ ⟨fun _ => hn.1, fun _ => by decide⟩ (fun _ => hn.2) rfl, ?_⟩
   obtain ⟨a1, a2⟩ := q2 q
   have : iY (xj l (st.name l)).1.tree (xj l (st.name l)).2 (xj l (st.name l)).2.length := ⟨eX _, fun x hx => (a2 x (List.mem_of_mem_take hx)).2.2⟩
   simp [cD, nd, a1, this]) (fun a => rfl)
  obtain ⟨e1, e2⟩ := A7 hl c1 (d := nd 22 [(xj l (st.name l)).1.iI (nd 11 (xj l (st.name l)).2 0 (st.c7 l) (st.now l).pos)] 0 [] (st.now l).pos) dD (fun q => by
   refine ⟨kZ (l := l) ⟨by decide, by decide⟩ (by decide) (fun q => absurd rfl q) rfl, ?_⟩
   have := (c2 q).2.2.2
   simp only [nd] at this;simp [cD, nd, this]) (fun a => rfl)
  exact ⟨e1, fun q => (e2 q).SQ (by simp [iR, nd])⟩
 ·split
  ·rename_i hq
   obtain ⟨q1, q2⟩ := Xj ht hg g1.pl p1.inv [91] [93]
   have p2 := (p1.trans q1).want hl (s := [61])
   obtain ⟨_, _, _, _, _, g2, _⟩ := EL ht g1.pl [91] [93]
   have g3 := (g1.trans g2).trans (Gr.want ht g2.pl (s := [61]))
   obtain ⟨q3, q4⟩ := BB ht hg g3.pl p2.inv
   have hn := mO ht hg hq.1
   have p3 := p2.trans q3
   obtain ⟨e1, e2⟩ := A7 hl p3 (d := nd 14 [(CR l [91] [93] (st.name l)).2, (kj l ((CR l [91] [93] (st.name l)).1.want l [61])).2] 0 (st.c7 l) ((st.name l).now l).pos) ⟨_, lP hl, rfl⟩ (fun q => by
    refine ⟨kZ (l := l) ⟨by decide, by decide⟩ ⟨fun _ => hn.1, fun _ => by decide⟩ (fun _ => hn.2) rfl, ?_⟩
    have h1 := (q3.grow q).1
    obtain ⟨h2, h3⟩ := jN h1
    have k1 : ef ((CR l [91] [93] (st.name l)).1.want l [61]).tree (CR l [91] [93] (st.name l)).2 kC := by rw [h3]; exact q2 h2
    have k1 := (k1.pp q3 q).2.2
    have k2 := (q4 q).2.2
    simp [cD, nd, iY, k1, k2]) (fun a => by simp [nd, List.count_cons])
   exact ⟨e1, fun q => (e2 q).SQ (by simp [iR, nd])⟩
  ·have p2 := p1.want hl (s := [61])
   have g3 := g1.trans (Gr.want ht g1.pl (s := [61]))
   obtain ⟨q3, q4⟩ := BB ht hg g3.pl p2.inv
   have p3 := p2.trans q3
   obtain ⟨e1, e2⟩ := A7 hl p3 (d := nd 13 [(kj l ((st.name l).want l [61])).2] 0 (st.c7 l) (st.now l).pos) dD (fun q => by
    obtain ⟨h2, _⟩ := jN (q3.grow q).1
    have hn := mO ht hg h2
    exact ⟨kZ (l := l) ⟨by decide, by decide⟩ ⟨fun _ => hn.1, fun _ => by decide⟩ (fun _ => hn.2) rfl, Rb (.inr (.inl rfl)) (q4 q).2.2⟩) (fun a => rfl)
   exact ⟨e1, fun q => (e2 q).SQ (by simp [iR, nd])⟩
end
end
section
def PC.post (l : List Tok) (st s1 : RS) : PC -> List Int -> Prop
 | .stmt, r => PP l st s1 r /\ r.length = 1 /\ (s1.fe = 0 -> ∀ x ∈ r, ef s1.tree x iR)
 | .block, r => PP l st s1 r /\ r.length = 1 /\ (s1.fe = 0 -> ∀ x ∈ r, ef s1.tree x (· = 23))
 | .func, r => PP l st s1 r /\ r.length = 1 /\ (s1.fe = 0 -> (∀ x ∈ r, ef s1.tree x (· = 25)) /\ (st.want l BK).fe = 0)
 | .ll out, r => ∃ r', r = out ++ r' /\ PP l st s1 r' /\ (s1.fe = 0 -> ∀ x ∈ r', ef s1.tree x iR)
 | .uy out, r => ∃ r', r = out ++ r' /\ PP l st s1 r' /\ (s1.fe = 0 -> (∀ x ∈ r', ef s1.tree x (· = 24)) /\ r.length <= 8)
 | .ve out, r => ∃ r', r = out ++ r' /\ PP l st s1 r' /\ (s1.fe = 0 -> (∀ x ∈ r', ef s1.tree x (· = 25)) /\ r.length <= 200)
def PC.pre (st : RS) : PC -> Prop
 | .uy out => out.length <= 8
 | .ve out => out.length <= 200
 | _ => True
theorem Na {tr : List Nd} {x y n p : Int} {zs : List Int} {s : cm} (h : kC (kindOf tr x)) (hy : kindOf tr y = 23) (hz : ∀ z ∈ zs, kindOf tr z = 23) (hl : zs.length <= 1) : cD tr (nd 15 (x :: y :: zs) n s p) := by
 have h1 : iY tr (x :: y :: zs) 1 := ⟨by simp, by simp [h]⟩
 have h2 : ui tr (y :: zs) 23 2 := ⟨by simpa [hy] using hz, by simp; omega⟩
 simp [cD, nd, h1, h2]
theorem LF {tr : List Nd} {x y n p : Int} {s : cm} (h : kC (kindOf tr x)) (hy : kindOf tr y = 23) : cD tr (nd 16 [x, y] n s p) := by
 have h1 : iY tr [x, y] 1 := ⟨by simp, by simp [h]⟩
 have h2 : ui tr [y] 23 1 := ⟨by simp [hy], by simp⟩
 simp [cD, nd, h1, h2]
theorem Q9 {tr : List Nd} {w x y n p : Int} {s : cm} (h0 : kC (kindOf tr w)) (h : kC (kindOf tr x)) (hy : kindOf tr y = 23) : cD tr (nd 17 [w, x, y] n s p) := by
 have h1 : iY tr [w, x, y] 2 := ⟨by simp, by simp [h0, h]⟩
 have h2 : ui tr [y] 23 1 := ⟨by simp [hy], by simp⟩
 simp [cD, nd, h1, h2]
theorem LG {tr : List Nd} {r : List Int} {n p : Int} {s : cm} (h : ∀ x ∈ r, iR (kindOf tr x)) : cD tr (nd 23 r n s p) := by
 simp [cD, nd]; exact h
theorem Q8 {tr : List Nd} {r : List Int} {y n p : Int} {s : cm} (h : ∀ x ∈ r, kindOf tr x = 24) (hl : r.length <= 8) (hy : kindOf tr y = 23) : cD tr (nd 25 (r ++ [y]) n s p) := by
 have h1 : ui tr r 24 8 := ⟨h, hl⟩
 simp [cD, nd, hy, h1]
theorem O2 {tr : List Nd} {r : List Int} {n p : Int} {s : cm} (h : ∀ x ∈ r, kindOf tr x = 25) (hl : r.length <= 200) : cD tr (nd 26 r n s p) := by
 have h1 : ui tr r 25 200 := ⟨h, hl⟩
 simp [cD, nd, h1]
theorem V3 {l : List Tok} (ht : bT l) (hg : ∀ t ∈ l, t.kind = 1 -> t.text ≠ [] /\ nC t.text) : ∀ (k : Nat) (c : PC) (st s1 : RS) (r : List Int), oG l k c st = some (s1, r) -> st.pos < l.length -> TI l st -> c.pre st -> s1.pos < l.length /\ c.post l st s1 r := by
 intro k
 have hl := ht.pos
 induction k with
 | zero => intro c st s1 r h; cases h
 | succ k ih =>
  intro c st s1 r h hp hT hm
  have pS := lP (st := st) hl
  have dD : ∃ t ∈ l, ((st.now l).pos : Int) = (t.pos : Int) := ⟨_, pS, rfl⟩
  cases c with
  | stmt =>
   have done : ∀ {x : RS × Int}, Gr l st.next x.1 -> PP l st.next x.1 [x.2] -> (x.1.fe = 0 -> ef x.1.tree x.2 iR) -> some (Jh x) = some (s1, r) -> s1.pos < l.length /\ PC.post l st s1 .stmt r := by
    intro x g pp kx h
    obtain ⟨rfl, rfl⟩ := eQ _ _ _ _ ▸ pN h
    exact ⟨g.pl, pp.Bc pp.inv (fun q => ⟨q, rfl⟩) (fun q => ⟨q, rfl⟩), rfl, fun q y hy => by rw [yl.1 hy]; exact kx q⟩
   have fin : ∀ {s0 : RS} {ks : List Int} (d : Nd), s0.pos < l.length -> PP l st s0 ks -> d.pos = ((st.now l).pos : Int) \/ (∃ t ∈ l, d.pos = (t.pos : Int)) -> (s0.fe = 0 -> BO d /\ cD s0.tree d) -> (∀ a, d.kids.count a = ks.count a) -> iR d.kind -> xU s0 d = some (s1, r) -> s1.pos < l.length /\ PC.post l st s1 .stmt r := by
    intro s0 ks d g pp hpd ho hc SD h
    obtain ⟨rfl, rfl⟩ := eQ _ _ _ _ ▸ pN h
    obtain ⟨q1, q2⟩ := pp.put (d := d) (hpd.elim (fun q => q ▸ dD) id) ho hc
    exact ⟨by rw [oC]; exact g, q1, rfl, fun q y hy => by rw [yl.1 hy]; exact (q2 q).2.SQ SD⟩
   have p0 : PP l st st.next [] := (PP.refl hT).to hT.next fun q => ⟨q, rfl⟩
   simp only [oG] at h
   split at h
   ·rename_i q; have hn := is_lt ht hp q
    obtain ⟨a, b⟩ := Vg ht hg (st := st.next) hn hT.next
    exact done (M8 ht hn).1 a b h
   ·split at h
    ·rename_i q; have hn := is_lt ht hp q
     obtain ⟨e1, e2⟩ := BB ht hg (st := st.next) hn hT.next
     obtain ⟨_, _, _, _, _, ge, _⟩ := lh (st := st.next) ht hn
     simp only [Xk] at h;obtain ⟨⟨s2, r2⟩, h1, h2⟩ := bind_some h
     obtain ⟨l2, p2, n2, k2⟩ := ih _ _ _ _ h1 ge.pl e1.inv trivial
     obtain ⟨y, rfl⟩ := js n2
     have pp := (p0.trans e1).trans p2
     simp only at h2
     split at h2
     ·rename_i q2
      obtain ⟨⟨s3, r3⟩, h3, h4⟩ := bind_some h2
      have hn2 := is_lt ht l2 q2
      obtain ⟨l3, p3, n3, k3⟩ := ih _ _ _ _ h3 hn2 p2.inv.next trivial
      obtain ⟨z, rfl⟩ := js n3
      have p2' : PP l st s2.next ([] ++ [(kj l st.next).2] ++ [y]) := pp.to p2.inv.next fun q => ⟨q, rfl⟩
      refine fin (nd 15 ((kj l st.next).2 :: [y] ++ [z]) 0 [] (st.now l).pos) l3 (p2'.trans p3) (.inl rfl) (fun q => ⟨kZ (l := l) ⟨by decide, by decide⟩ (by decide) (fun q => absurd rfl q) rfl, ?_⟩) (fun a => rfl) (by simp [iR, nd]) h4
      have f2 := (p3.grow q).1
      have f2' : s2.fe = 0 := f2
      have f1 := (p2.grow f2').1
      have kx := ((e2 f1).pp p2 f2')
      have kx' : ef s2.next.tree (kj l st.next).2 kC := kx
      have ky : ef s2.next.tree y (· = 23) := k2 f2' y (by simp)
      exact Na (kx'.pp p3 q).2.2 (ky.pp p3 q).2.2 (fun w hw => by rw [yl.1 hw]; exact (k3 q z (by simp)).2.2) (by simp)
     ·refine fin (nd 15 ((kj l st.next).2 :: [y]) 0 [] (st.now l).pos) l2 pp (.inl rfl) (fun q => ⟨kZ (l := l) ⟨by decide, by decide⟩ (by decide) (fun q => absurd rfl q) rfl, ?_⟩) (fun a => rfl) (by simp [iR, nd]) h2
      have f1 := (p2.grow q).1
      exact Na (zs := []) ((e2 f1).pp p2 q).2.2 (k2 q y (by simp)).2.2 (by simp) (by simp)
    ·split at h
     ·rename_i q; have hn := is_lt ht hp q
      obtain ⟨e1, e2⟩ := BB ht hg (st := st.next) hn hT.next
      obtain ⟨_, _, _, _, _, ge, _⟩ := lh (st := st.next) ht hn
      simp only [DV] at h;obtain ⟨⟨s2, r2⟩, h1, h2⟩ := bind_some h
      obtain ⟨l2, p2, n2, k2⟩ := ih _ _ _ _ h1 ge.pl e1.inv trivial
      obtain ⟨y, rfl⟩ := js n2
      refine fin (nd 16 ((kj l st.next).2 :: [y]) 0 [] (st.now l).pos) l2 ((p0.trans e1).trans p2) (.inl rfl) (fun q => ⟨kZ (l := l) ⟨by decide, by decide⟩ (by decide) (fun q => absurd rfl q) rfl, ?_⟩) (fun a => rfl) (by simp [iR, nd]) h2
      have f1 := (p2.grow q).1
      exact LF ((e2 f1).pp p2 q).2.2 (k2 q y (by simp)).2.2
     ·split at h
      ·rename_i q; have hn := is_lt ht hp q
       have g1 : Gr l st.next (st.next.name l) := Gr.name ht hn
       have g2 := g1.trans (Gr.want ht g1.pl (s := [61]))
       have p2 := ((p0.name hl).want hl (s := [61]))
       obtain ⟨e1, e2⟩ := BB ht hg g2.pl p2.inv
       obtain ⟨_, _, _, _, _, ge, _⟩ := lh ht g2.pl
       have g3 := g2.trans ge
       have p3 := (p2.trans e1).want hl (s := [44])
       have g4 := g3.trans (Gr.want ht g3.pl (s := [44]))
       obtain ⟨e3, e4⟩ := BB ht hg g4.pl p3.inv
       obtain ⟨_, _, _, _, _, gf, _⟩ := lh ht g4.pl
       simp only [RU] at h;obtain ⟨⟨s2, r2⟩, h1, h2⟩ := bind_some h
       obtain ⟨l2, p4, n2, k2⟩ := ih _ _ _ _ h1 gf.pl e3.inv trivial
       obtain ⟨y, rfl⟩ := js n2
       refine fin (nd 17 ((kj l ((st.next.name l).want l [61])).2 :: (kj l ((kj l ((st.next.name l).want l [61])).1.want l [44])).2 :: [y]) 0 (st.next.c7 l) (st.next.now l).pos) l2 ((p3.trans e3).trans p4) (.inr ⟨_, lP hl, rfl⟩) (fun q => ?_) (fun a => rfl) (by simp [iR, nd]) h2
       have f3 := (p4.grow q).1
       have f2 := (e3.grow f3).1
       obtain ⟨f1, t1⟩ := jN f2
       obtain ⟨f0, t0⟩ := jN (e1.grow f1).1
       have hn := mO ht hg f0
       have kw : ef ((kj l ((st.next.name l).want l [61])).1.want l [44]).tree (kj l ((st.next.name l).want l [61])).2 kC := by rw [t1]; exact e2 f1
       exact ⟨kZ (l := l) ⟨by decide, by decide⟩ ⟨fun _ => hn.1, fun _ => by decide⟩ (fun _ => hn.2) rfl, Q9 ((kw.pp e3 f3).pp p4 q).2.2 ((e4 f3).pp p4 q).2.2 (k2 q y (by simp)).2.2⟩
      ·split at h
       ·rename_i q; have hn := is_lt ht hp q
        obtain ⟨a, b⟩ := N4 ht hg dD (.inl rfl) (hT.next)
        exact done (oM ht (.refl hn) _).1 a b h
       ·split at h
        ·rename_i q; have hn := is_lt ht hp q
         obtain ⟨a, b⟩ := N4 ht hg dD (.inr rfl) (hT.next)
         exact done (oM ht (.refl hn) _).1 a b h
        ·split at h
         ·rename_i q; have hn := is_lt ht hp q
          obtain ⟨a, b⟩ := QE ht hg dD (.inl rfl) (st := st.next) hn hT.next
          exact done (CG ht hn _ _).1 a b h
         ·split at h
          ·rename_i q; have hn := is_lt ht hp q
           obtain ⟨a, b⟩ := QE ht hg dD (.inr rfl) (st := st.next) hn hT.next
           exact done (CG ht hn _ _).1 a b h
          ·obtain ⟨a, b⟩ := QQ ht hg hp hT
           obtain ⟨rfl, rfl⟩ := eQ _ _ _ _ ▸ pN h
           exact ⟨(Gv ht hp).1.pl, a, rfl, fun q y hy => by rw [yl.1 hy]; exact b q⟩
  | block =>
   simp only [oG] at h
   split at h
   ·rename_i q
    have hn := is_lt ht hp q
    have go := Gr.open hn (p := ((st.now l).pos : Int))
    split at h
    ·obtain ⟨⟨s2, r2⟩, h1, h2⟩ := bind_some h
     obtain ⟨l2, r', u7, p2, k2⟩ := ih _ _ _ _ h1 go.pl (hT.next.open dD) trivial
     rw [List.nil_append] at u7
     subst u7
     have p1 : PP l st s2.close r2 := p2.Bc p2.inv.close (fun q => by obtain ⟨a, b⟩ := CC q; exact ⟨a, b.symm⟩) fun q => ⟨q, rfl⟩
     obtain ⟨rfl, rfl⟩ := eQ _ _ _ _ ▸ pN h2
     obtain ⟨q1, q2⟩ := p1.put (d := nd 23 r2 0 [] (st.now l).pos) dD (fun q => ⟨kZ (l := l) ⟨by decide, by decide⟩ (by decide) (fun q => absurd rfl q) rfl, LG fun x hx => (k2 q x hx).2.2⟩) (fun a => rfl)
     exact ⟨by rw [oC]; exact l2, q1, rfl, fun q y hy => by rw [yl.1 hy]; exact (q2 q).2⟩
    ·rename_i hf
     obtain ⟨rfl, rfl⟩ := eQ _ _ _ _ ▸ pN h
     exact ⟨go.pl, .bad (hT.next.open dD) hf, rfl, fun q => absurd q hf⟩
   ·obtain ⟨rfl, rfl⟩ := eQ _ _ _ _ ▸ pN h
    exact ⟨(Gr.fail hp (by decide)).pl, .bad (hT.fail (by decide) dD) (ey (by decide)), rfl, fun q => absurd q (ey (by decide))⟩
  | ll out =>
   simp only [oG] at h
   split at h
   ·rename_i q
    obtain ⟨rfl, rfl⟩ := eQ _ _ _ _ ▸ pN h
    exact ⟨is_lt ht hp q, [], by simp, (PP.refl hT).to hT.next fun q => ⟨q, rfl⟩, fun _ x hx => by cases hx⟩
   ·obtain ⟨⟨s2, r2⟩, h1, h2⟩ := bind_some h
    obtain ⟨l2, p2, n2, k2⟩ := ih _ _ _ _ h1 hp hT trivial
    simp only at h2
    split at h2
    ·obtain ⟨l3, r', rfl, p3, k3⟩ := ih _ _ _ _ h2 l2 p2.inv trivial
     refine ⟨l3, r2 ++ r', by rw [List.append_assoc], p2.trans p3, fun q x hx => ?_⟩
     rcases uD.1 hx with hx | hx
     ·exact (k2 (p3.grow q).1 x hx).pp p3 q
     ·exact k3 q x hx
    ·obtain ⟨rfl, rfl⟩ := eQ _ _ _ _ ▸ pN h2
     exact ⟨l2, r2, rfl, p2, k2⟩
  | uy out =>
   have hm : out.length <= 8 := hm
   simp only [oG] at h
   split at h
   ·have g1 := Gr.name ht hp
    have p1 := (PP.refl hT).name hl
    have g0 : Gr l st (if out.length = 8 then (st.name l).fail 3 (st.now l).pos else st.name l) := by
     split
     ·exact g1.trans (.fail g1.pl (by decide))
     ·exact g1
    have p0 : PP l st (if out.length = 8 then (st.name l).fail 3 (st.now l).pos else st.name l) [] := by
     split
     ·exact .bad (p1.inv.fail (by decide) dD) (ey (by decide))
     ·exact p1
    have f0 : (if out.length = 8 then (st.name l).fail 3 (st.now l).pos else st.name l).fe = 0 -> out.length < 8 /\ (st.name l).fe = 0 := by
     split
     ·exact fun q => absurd q (ey (by decide))
     ·exact fun q => ⟨by omega, q⟩
    generalize (if out.length = 8 then (st.name l).fail 3 (st.now l).pos else st.name l) = s0 at *
    have pk := p0.kd hl
    obtain ⟨gk, _⟩ := py ht g0.pl
    obtain ⟨q1, q2⟩ := pk.put (d := nd 24 [] (ly l s0).2 (st.c7 l) (st.now l).pos) dD (fun q => by
     obtain ⟨a, _, b, c⟩ := GC q
     have hn := mO ht hg (f0 a).2
     refine ⟨kZ (l := l) ⟨by decide, by decide⟩ ⟨fun _ => hn.1, fun _ => by decide⟩ (fun _ => hn.2) ?_, Us (.inr (.inr rfl))⟩
     show 1 <= (ly l s0).2 /\ (ly l s0).2 <= 3
     exact ⟨b, c⟩) (fun a => rfl)
    have f1 : ((ly l s0).1.put (nd 24 [] (ly l s0).2 (st.c7 l) (st.now l).pos)).fe = 0 -> out.length < 8 := fun q => (f0 (GC (q2 q).1).1).1
    have l1 : ((ly l s0).1.put (nd 24 [] (ly l s0).2 (st.c7 l) (st.now l).pos)).pos < l.length := by rw [oC]; exact gk.pl
    have kk := fun q => (q2 q).2
    clear q2;generalize (ly l s0).1.iI (nd 24 [] (ly l s0).2 (st.c7 l) (st.now l).pos) = y at *
    have kk' : ((ly l s0).1.put (nd 24 [] (ly l s0).2 (st.c7 l) (st.now l).pos)).fe = 0 -> ef ((ly l s0).1.put (nd 24 [] (ly l s0).2 (st.c7 l) (st.now l).pos)).tree y (· = 24) := kk
    clear kk;generalize (ly l s0).1.put (nd 24 [] (ly l s0).2 (st.c7 l) (st.now l).pos) = s2 at *
    split at h
    ·rename_i q
     have hn := is_lt ht l1 q
     obtain ⟨l3, r', rfl, p3, k3⟩ := ih _ _ _ _ h hn q1.inv.next (by show (out ++ [y]).length <= 8; rw [kL, List.length_singleton]; have := f1 q.1; omega)
     have q1' : PP l st s2.next [y] := q1.to q1.inv.next fun q => ⟨q, rfl⟩
     refine ⟨l3, [y] ++ r', by rw [List.append_assoc], q1'.trans p3, fun w => ⟨fun x hx => ?_, (k3 w).2⟩⟩
     rcases uD.1 hx with hx | hx
     ·rw [yl.1 hx]
      have : ef s2.next.tree y (· = 24) := kk' q.1
      exact this.pp p3 w
     ·exact (k3 w).1 x hx
    ·obtain ⟨rfl, rfl⟩ := eQ _ _ _ _ ▸ pN h
     exact ⟨l1, [y], rfl, q1, fun w => ⟨fun x hx => by rw [yl.1 hx]; exact kk' w, by rw [kL, List.length_singleton]; have := f1 w; omega⟩⟩
   ·rename_i hf
    obtain ⟨rfl, rfl⟩ := eQ _ _ _ _ ▸ pN h
    exact ⟨hp, [], by simp, .bad hT hf, fun q => absurd q hf⟩
  | func =>
   simp only [oG] at h;have g0 := Gr.want ht hp (s := BK)
   have p0 := (PP.refl hT).want hl (s := BK)
   generalize PR : st.want l BK = s0 at *
   have g1 : Gr l s0 (s0.name l) := Gr.name ht g0.pl
   have g2 : Gr l s0 ((s0.name l).want l [40]) := g1.trans (Gr.want ht g1.pl)
   have p1 := (p0.name hl).want hl (s := [40])
   have f1 : ((s0.name l).want l [40]).fe = 0 -> (s0.name l).fe = 0 := fun q => (jN q).1
   generalize rT : (s0.name l).want l [40] = K3 at *
   obtain ⟨⟨s2, r2⟩, h1, h2⟩ := bind_some h
   have Vw : s2.pos < l.length /\ PP l K3 s2 r2 /\ (s2.fe = 0 -> (∀ x ∈ r2, ef s2.tree x (· = 24)) /\ r2.length <= 8) := by
    split at h1
    ·obtain ⟨rfl, rfl⟩ := eQ _ _ _ _ ▸ pN h1
     exact ⟨g2.pl, .refl p1.inv, fun _ => ⟨fun x hx => (by cases hx), kW _⟩⟩
    ·obtain ⟨l3, r', u7, p3, k3⟩ := ih _ _ _ _ h1 g2.pl p1.inv (kW _)
     rw [List.nil_append] at u7
     subst u7
     exact ⟨l3, p3, k3⟩
   obtain ⟨l2, p2, k2⟩ := Vw
   simp only at h2
   have gw := Gr.want ht l2 (s := [41])
   have p3 := ((p1.trans p2).want hl (s := [41])).kd hl
   obtain ⟨gk, _⟩ := py ht gw.pl
   obtain ⟨⟨s5, r5⟩, h3, h4⟩ := bind_some h2
   obtain ⟨l5, p5, n5, k5⟩ := ih _ _ _ _ h3 gk.pl p3.inv trivial
   obtain ⟨y, rfl⟩ := js n5
   simp only [xU] at h4;obtain ⟨rfl, rfl⟩ := eQ _ _ _ _ ▸ pN h4
   obtain ⟨q1, q2⟩ := (p3.trans p5).put (d := nd 25 (r2 ++ [y]) (ly l (s2.want l [41])).2 (s0.c7 l) (s0.now l).pos) ⟨_, lP hl, rfl⟩ (fun q => by
    obtain ⟨a, t1, b, c⟩ := GC (p5.grow q).1
    obtain ⟨f2, t2⟩ := jN a
    have hn := mO ht hg (f1 (p2.grow f2).1)
    refine ⟨kZ (l := l) ⟨by decide, by decide⟩ ⟨fun _ => hn.1, fun _ => by decide⟩ (fun _ => hn.2) ?_, ?_⟩
    ·show 1 <= (ly l (s2.want l [41])).2 /\ (ly l (s2.want l [41])).2 <= 3
     exact ⟨b, c⟩
    ·refine Q8 (fun x hx => ?_) (k2 f2).2 (k5 q y (by simp)).2.2
     have : ef (ly l (s2.want l [41])).1.tree x (· = 24) := by rw [t1, t2]; exact (k2 f2).1 x hx
     exact (this.pp p5 q).2.2) (fun a => by simp [nd])
   refine ⟨by rw [oC]; exact l5, q1, rfl, fun q => ⟨fun z hz => by rw [yl.1 hz]; exact (q2 q).2, ?_⟩⟩
   rw [PR];obtain ⟨a, _⟩ := GC (p5.grow (q2 q).1).1
   exact (CK (f1 (p2.grow (jN a).1).1)).1
  | ve out =>
   have hm : out.length <= 200 := hm
   simp only [oG] at h
   split at h
   ·rename_i qf
    have p0 : PP l st (if out.length = 200 /\ st.is l BK then st.fail 3 (st.now l).pos else st) [] := by
     split
     ·exact .bad (hT.fail (by decide) dD) (ey (by decide))
     ·exact .refl hT
    have l0 : (if out.length = 200 /\ st.is l BK then st.fail 3 (st.now l).pos else st).pos < l.length := by
     split
     ·rw [c9.1]; exact hp
     ·exact hp
    have n0 : out.length = 200 -> ((if out.length = 200 /\ st.is l BK then st.fail 3 (st.now l).pos else st).want l BK).fe ≠ 0 := by
     intro q
     by_cases w : st.is l BK
     ·rw [if_pos ⟨q, w⟩]; exact fun a => absurd (jN a).1 (ey (by decide))
     ·rw [if_neg fun z => w z.2]
      unfold RS.want; rw [if_neg w]; exact ey (by decide)
    generalize (if out.length = 200 /\ st.is l BK then st.fail 3 (st.now l).pos else st) = s0 at *
    obtain ⟨⟨s2, r2⟩, h1, h2⟩ := bind_some h
    obtain ⟨l2, p2, n2, k2⟩ := ih _ _ _ _ h1 l0 p0.inv trivial
    have bg : s2.fe = 0 -> out.length < 200 := by
     intro q
     refine B9 fun w => n0 (by omega) ?_
     exact (k2 q).2
    obtain ⟨y, rfl⟩ := js n2
    simp only at h2
    split at h2
    ·rename_i q
     obtain ⟨l3, r', rfl, p3, k3⟩ := ih _ _ _ _ h2 l2 p2.inv (by show (out ++ [y]).length <= 200; rw [kL, List.length_singleton]; have := bg q; omega)
     refine ⟨l3, [y] ++ r', by rw [List.append_assoc], p0.trans (p2.trans p3), fun w => ⟨fun x hx => ?_, (k3 w).2⟩⟩
     rcases uD.1 hx with hx | hx
     ·exact ((k2 q).1 x hx).pp p3 w
     ·exact (k3 w).1 x hx
    ·rename_i q
     obtain ⟨rfl, rfl⟩ := eQ _ _ _ _ ▸ pN h2
     exact ⟨l2, [y], rfl, p0.trans p2, fun w => absurd w q⟩
   ·obtain ⟨rfl, rfl⟩ := eQ _ _ _ _ ▸ pN h
    exact ⟨hp, [], by simp, .refl hT, fun _ => ⟨fun x hx => (by cases hx), hm⟩⟩
end
section
theorem Sb {n : Int} : bA B K Jt [.int .u8 n] = some (bo (dX n)) := by
 rw [cO (by simp [jl])]
 simp +contextual -implicitDefEqProofs (maxSteps := 1000000) (maxDischargeDepth := 8) only [jl, dX, aq, aa, implies_true, simprocAttr]
theorem N1 : dX 10 = True := eq_true (by decide)
theorem Oz {s : cm} (hs : s.length < 1000000000) {m0 : Mem} {fr : Fr} (h0 : fr.get 0 = .str s) (h3 : fr.get 3 = .bool false) (h4 : fr.get 4 = .int .i64 0) (hd : fr.defers = []) :
  ∃ o, exec U (.loop iA) fr m0 = some o /\ ((∃ fr', o = .ret fr' m0 /\ fr'.get 2 = .int .i64 (cW false s : Int) /\ fr'.defers = []) \/ (cW false s = s.length /\ ∃ fr', o = .exit 0 fr' m0 /\ fr'.get 0 = .str s /\ fr'.defers = [])) := by
 refine fC (σ := Nat) (fun i fr m => m = m0 /\ i <= s.length /\ fr.get 0 = .str s /\ (∃ r, fr.get 3 = .bool r /\ cW false s = i + cW r (s.drop i)) /\ fr.get 4 = .int .i64 (i : Int) /\ fr.defers = []) (fun i => s.length - i) _ ?_ 0 fr m0 ⟨rfl, kW _, h0, ⟨false, h3, by simp⟩, h4, hd⟩
 rintro i fr m ⟨rfl, hi, h0, ⟨r, h3, hr⟩, h4, hd⟩
 generalize hX : exec U iA fr m = X
 by_cases bg : i < s.length
 ·have hc : (i : Int) < (s.length : Int) := by omega
  have hg : s[i]? = some s[i] := lp bg
  have ol := bJ (i := i) (by omega)
  rw [drop_cons bg, cW] at hr;generalize s[i] = c at hg hr
  simp only [cI] at hr
  cases r
  all_goals
   simp +contextual -implicitDefEqProofs (maxSteps := 1000000) (maxDischargeDepth := 8) only [iA, h0, h3, h4, hd, hc, hg, bg, ol, bi, Sb, N1, aq, aa, implies_true, simprocAttr] at hX
   subst hX
   repeat' refine mC (fun _ => ?_) (fun _ => ?_)
   all_goals first
    | (refine dq (i + 1) (by omega) ⟨rfl, bg, by simp only [h0, ao, Nat.reduceBEq ], ⟨_, by simp only [h3, ao, Nat.reduceBEq ]; rfl, ?_⟩, by simp only [ao, Nat.reduceBEq ], by simp only [hd, ao, Nat.reduceBEq ]⟩
       rw [hr]; simp [*, N1]; omega)
    | (refine il (Or.inl ⟨_, rfl, ?_, by simp only [hd, ao, Nat.reduceBEq ]⟩)
       rw [hr]; simp only [ao, Nat.reduceBEq ]; simp [*])
 ·have hc : ¬ ((i : Int) < (s.length : Int)) := by omega
  simp +contextual -implicitDefEqProofs (maxSteps := 1000000) (maxDischargeDepth := 8) only [iA, h0, h3, h4, hd, hc, aq, aa, implies_true, simprocAttr] at hX
  subst hX;obtain rfl : i = s.length := by omega
  rw [List.drop_length] at hr;simp only [cW, Nat.add_zero] at hr;exact dr (.inr ⟨hr, _, rfl, by simp only [h0, ao, Nat.reduceBEq ], by simp only [hd, ao, Nat.reduceBEq ]⟩)
theorem MG {s : cm} (hs : s.length < 1000000000) : bA B K Lu [.str s] = some (.int .i64 (cW false s : Int)) := by
 rw [cO (by simp [j9])]
 generalize hL : exec (UT B K) (aE.loop iA) = L
 simp +contextual -implicitDefEqProofs (maxSteps := 1000000) (maxDischargeDepth := 8) only [j9, aq, aa, implies_true, simprocAttr]
 subst hL;generalize hX : exec _ (.loop iA) _ _ = X
 obtain ⟨o, rfl, h⟩ := ft hX (Oz (s := s) hs (by simp only [ao, Nat.reduceBEq ]) (by simp only [ao, Nat.reduceBEq ]) (by simp only [ao, Nat.reduceBEq ]) (by simp only [ao, Nat.reduceBEq ]))
 rcases h with ⟨fr', rfl, h2, hd⟩ | ⟨h, fr', rfl, h0, hd⟩
 ·simp +contextual -implicitDefEqProofs (maxSteps := 1000000) (maxDischargeDepth := 8) only [h2, hd, aq, aa, implies_true, simprocAttr]
 ·simp +contextual -implicitDefEqProofs (maxSteps := 1000000) (maxDischargeDepth := 8) only [h, h0, hd, aq, aa, implies_true, simprocAttr]
end
section
theorem Jj {s : cm} (hs : s.length < 1000000000) (KG : ∀ c ∈ s, aR (cI c)) {m0 : Mem} {fr : Fr} (h0 : fr.get 0 = .str s) (h4 : fr.get 4 = .int .i64 0) (h5 : fr.get 5 = .int .i64 0) (hd : fr.defers = []) :
  ∃ o, exec U (.loop fT) fr m0 = some o /\ ((rJ 0 s = none /\ ∃ fr', o = .ret fr' m0 /\ fr'.get 2 = .int .i64 0 /\ fr'.get 3 = .bool false /\ fr'.defers = []) \/ (∃ n : Nat, rJ 0 s = some n /\ ∃ fr', o = .exit 0 fr' m0 /\ fr'.get 4 = .int .i64 (n : Int) /\ fr'.defers = [])) := by
 refine fC (σ := Nat) (fun i fr m => m = m0 /\ i <= s.length /\ fr.get 0 = .str s /\ (∃ n : Nat, fr.get 4 = .int .i64 (n : Int) /\ n <= 9223372036854775807 /\ rJ 0 s = rJ n (s.drop i)) /\ fr.get 5 = .int .i64 (i : Int) /\ fr.defers = []) (fun i => s.length - i) _ ?_ 0 fr m0 ⟨rfl, kW _, h0, ⟨0, h4, by omega, by simp⟩, h5, hd⟩
 rintro i fr m ⟨rfl, hi, h0, ⟨n, h4, hn, hr⟩, h5, hd⟩
 generalize hX : exec U fT fr m = X
 by_cases bg : i < s.length
 ·have hc : (i : Int) < (s.length : Int) := by omega
  have hg : s[i]? = some s[i] := lp bg
  have VQ := KG s[i] (BI bg)
  have ol := bJ (i := i) (by omega)
  rw [drop_cons bg, rJ] at hr;generalize s[i] = c at hg hr VQ
  unfold aR cI at VQ;have Tt : IntKind.u8.wrap ((c.toNat : Int) - 48) = (c.toNat : Int) - 48 := by rw [ME]; omega
  have hw3 : IntKind.i64.wrap ((c.toNat : Int) - 48) = (c.toNat : Int) - 48 := wrap_i64 (by omega) (by omega)
  simp +contextual -implicitDefEqProofs (maxSteps := 1000000) (maxDischargeDepth := 8) only [fT, h0, h4, h5, hd, hc, hg, bg, ol, Tt, hw3, bi, aq, aa, implies_true, simprocAttr] at hX
  subst hX;refine mC (fun hp => il (Or.inl ⟨?_, _, rfl, ?_, ?_, ?_⟩)) (fun hp => ?_)
  ·rw [hr, if_pos (by omega)]
  ·simp only [ao, Nat.reduceBEq ]
  ·simp only [ao, Nat.reduceBEq ]
  ·simp only [hd, ao, Nat.reduceBEq ]
  ·have hw4 : IntKind.i64.wrap (10 * (n : Int)) = 10 * (n : Int) := wrap_i64 (by omega) (by omega)
   have Xq : IntKind.i64.wrap (10 * (n : Int) + ((c.toNat : Int) - 48)) = ((10 * n + (c.toNat - 48) : Nat) : Int) := by rw [wrap_i64 (by omega) (by omega)]; omega
   refine dq (i + 1) (by omega) ⟨rfl, bg, by simp only [h0, ao, Nat.reduceBEq ], ⟨10 * n + (c.toNat - 48), by simp only [hw4, Xq, ao, Nat.reduceBEq ], by omega, ?_⟩, by simp only [ao, Nat.reduceBEq ], by simp only [hd, ao, Nat.reduceBEq ]⟩
   rw [hr, if_neg (by omega)]
 ·have hc : ¬ ((i : Int) < (s.length : Int)) := by omega
  simp +contextual -implicitDefEqProofs (maxSteps := 1000000) (maxDischargeDepth := 8) only [fT, h0, h4, h5, hd, hc, aq, aa, implies_true, simprocAttr] at hX
  subst hX;obtain rfl : i = s.length := by omega
  rw [List.drop_length] at hr;simp only [rJ] at hr;exact dr (Or.inr ⟨n, hr, _, rfl, by simp only [h4, ao, Nat.reduceBEq ], by simp only [hd, ao, Nat.reduceBEq ]⟩)
def QJ (o : Option Nat) : EV := match o with
 | some n => .tuple [.int .i64 (n : Int), .bool true]
 | none => .tuple [.int .i64 0, .bool false]
theorem OK {s : cm} (hs : s.length < 1000000000) (KG : ∀ c ∈ s, aR (cI c)) : bA B K HI [.str s] = some (QJ (rJ 0 s)) := by
 rw [cO (by simp [ia])]
 generalize hL : exec (UT B K) (aE.loop fT) = L
 simp +contextual -implicitDefEqProofs (maxSteps := 1000000) (maxDischargeDepth := 8) only [ia, aq, aa, implies_true, simprocAttr]
 subst hL;generalize hX : exec _ (.loop fT) _ _ = X
 obtain ⟨o, rfl, h⟩ := ft hX (Jj (s := s) hs KG (by simp only [ao, Nat.reduceBEq ]) (by simp only [ao, Nat.reduceBEq ]) (by simp only [ao, Nat.reduceBEq ]) (by simp only [ao, Nat.reduceBEq ]))
 rcases h with ⟨h, fr', rfl, h2, h3, hd⟩ | ⟨n, h, fr', rfl, h4, hd⟩
 ·simp +contextual -implicitDefEqProofs (maxSteps := 1000000) (maxDischargeDepth := 8) only [h, h2, h3, hd, QJ, aq, aa, implies_true, simprocAttr]
 ·simp +contextual -implicitDefEqProofs (maxSteps := 1000000) (maxDischargeDepth := 8) only [h, h4, hd, QJ, aq, aa, implies_true, simprocAttr]
theorem SU {s : cm} {ws : List cm} (hs : s.length < 1000000000) (hws : ws.length < 1000) {m0 : Mem} {fr : Fr} {b t : Nat} {v4 : EV} (hb : m0.get b = .cells (ws.map .str) 1 t false) (h0 : fr.get 0 = .str s) (h3 : fr.get 3 = .slice b 0 ws.length (some ws.length)) (h4 : fr.get 4 = v4) (h5 : fr.get 5 = .int .i64 0) (hd : fr.defers = []) :
  ∃ o, exec U (.loop gp) fr m0 = some o /\ (((2 <= s.length /\ s.take 2 ∈ ws) /\ ∃ fr' m', o = .ret fr' m' /\ fr'.get 2 = .int .i64 2 /\ fr'.defers = []) \/ (¬ (2 <= s.length /\ s.take 2 ∈ ws) /\ ∃ fr' m', o = .exit 0 fr' m' /\ fr'.get 0 = .str s /\ fr'.get 4 = v4 /\ fr'.defers = [])) := by
 refine fC (σ := Nat) (fun i fr m => m.get b = .cells (ws.map .str) 1 t false /\ i <= ws.length /\ fr.get 0 = .str s /\ fr.get 3 = .slice b 0 ws.length (some ws.length) /\ fr.get 4 = v4 /\ fr.get 5 = .int .i64 (i : Int) /\ (2 <= s.length -> s.take 2 ∉ ws.take i) /\ fr.defers = []) (fun i => ws.length - i) _ ?_ 0 fr m0 ⟨hb, kW _, h0, h3, h4, h5, by simp, hd⟩
 rintro i fr m ⟨hb, hi, h0, h3, h4, h5, hall, hd⟩
 generalize hX : exec U gp fr m = X
 by_cases bg : i < ws.length
 ·have hc : (i : Int) < (ws.length : Int) := by omega
  have hg : ws[i]? = some ws[i] := lp bg
  have ol := bJ (i := i) (by omega)
  by_cases h2 : 2 <= s.length
  ·have hc2 : (2 : Int) <= (s.length : Int) := by omega
   have Pf : ay (some (.int .i64 2)) s.length s.length = some 2 := cJ (i := 2) h2
   have Nm : ay none 0 2 = some 0 := rfl
   simp +contextual -implicitDefEqProofs (maxSteps := 1000000) (maxDischargeDepth := 8) only [gp, h0, h3, h4, h5, hd, hc, hc2, hg, bg, ol, hb, Pf, Nm, bi, Nat.mul_one, Option.map_none, aq, aa, implies_true, simprocAttr] at hX
   subst hX;refine mC (fun hp => il (Or.inl ⟨⟨h2, ?_⟩, _, _, rfl, by simp only [ao, Nat.reduceBEq ], by simp only [hd, ao, Nat.reduceBEq ]⟩)) (fun hp => dq (i + 1) (by omega) ⟨by simp only [gF, hb], bg, by simp only [h0, ao, Nat.reduceBEq ], by simp only [h3, ao, Nat.reduceBEq ], by simp only [h4, ao, Nat.reduceBEq ], by simp only [ao, Nat.reduceBEq ], fun _ => ?_, by simp only [hd, ao, Nat.reduceBEq ]⟩)
   ·rw [hp]; exact BI bg
   ·rw [List.take_succ_eq_append_getElem bg, uD]
    rintro (q | q)
    ·exact hall h2 q
    ·exact hp (yl.1 q)
  ·have hc2 : ¬ (2 : Int) <= (s.length : Int) := by omega
   simp +contextual -implicitDefEqProofs (maxSteps := 1000000) (maxDischargeDepth := 8) only [gp, h0, h3, h4, h5, hd, hc, hc2, hg, bg, ol, hb, bi, aq, aa, implies_true, simprocAttr] at hX
   subst hX;exact dr (Or.inr ⟨fun q => h2 q.1, _, _, rfl, by simp only [h0, ao, Nat.reduceBEq ], by simp only [h4, ao, Nat.reduceBEq ], by simp only [hd, ao, Nat.reduceBEq ]⟩)
 ·have hc : ¬ ((i : Int) < (ws.length : Int)) := by omega
  have : ws.take i = ws := Gc (by omega)
  rw [this] at hall;simp +contextual -implicitDefEqProofs (maxSteps := 1000000) (maxDischargeDepth := 8) only [gp, h0, h3, h4, h5, hd, hc, aq, aa, implies_true, simprocAttr] at hX
  subst hX;exact dr (Or.inr ⟨fun q => hall q.1 q.2, _, _, rfl, by simp only [h0, ao, Nat.reduceBEq ], by simp only [h4, ao, Nat.reduceBEq ], by simp only [hd, ao, Nat.reduceBEq ]⟩)
theorem SS {s os : cm} {c : UInt8} (AB : s[0]? = some c) (hos : os.length < 1000) {m0 : Mem} {fr : Fr} (h0 : fr.get 0 = .str s) (h4 : fr.get 4 = .str os) (h6 : fr.get 6 = .int .i64 0) (hd : fr.defers = []) :
  ∃ o, exec U (.loop iw) fr m0 = some o /\ ((c ∈ os /\ ∃ fr' m', o = .ret fr' m' /\ fr'.get 2 = .int .i64 1 /\ fr'.defers = []) \/ (c ∉ os /\ ∃ fr' m', o = .exit 2 fr' m' /\ fr'.defers = [])) := by
 refine fC (σ := Nat) (fun i fr _ => i <= os.length /\ fr.get 0 = .str s /\ fr.get 4 = .str os /\ fr.get 6 = .int .i64 (i : Int) /\ c ∉ os.take i /\ fr.defers = []) (fun i => os.length - i) _ ?_ 0 fr m0 ⟨kW _, h0, h4, h6, by simp, hd⟩
 rintro i fr m ⟨hi, h0, h4, h6, hall, hd⟩
 generalize hX : exec U iw fr m = X
 have PR : 0 < s.length := (rn.1 AB).1
 by_cases bg : i < os.length
 ·have hc : (i : Int) < (os.length : Int) := by omega
  have hg : os[i]? = some os[i] := lp bg
  have ol := bJ (i := i) (by omega)
  have he : ∀ d : UInt8, ((c.toNat : Int) = (d.toNat : Int)) = (c = d) := fun d => propext ⟨fun h => UInt8.toNat_inj.1 (by omega), fun h => by rw [h]⟩
  simp +contextual -implicitDefEqProofs (maxSteps := 1000000) (maxDischargeDepth := 8) only [iw, h0, h4, h6, hd, hc, AB, PR, hg, bg, ol, he, bi, zp, aq, aa, implies_true, simprocAttr] at hX
  subst hX;refine mC (fun hp => il (Or.inl ⟨?_, _, _, rfl, by simp only [ao, Nat.reduceBEq ], by simp only [hd, ao, Nat.reduceBEq ]⟩)) (fun hp => dq (i + 1) (by omega) ⟨bg, by simp only [h0, ao, Nat.reduceBEq ], by simp only [h4, ao, Nat.reduceBEq ], by simp only [ao, Nat.reduceBEq ], ?_, by simp only [hd, ao, Nat.reduceBEq ]⟩)
  ·rw [hp]; exact BI bg
  ·rw [List.take_succ_eq_append_getElem bg, uD]
   rintro (q | q)
   ·exact hall q
   ·exact hp (yl.1 q)
 ·have hc : ¬ ((i : Int) < (os.length : Int)) := by omega
  have : os.take i = os := Gc (by omega)
  rw [this] at hall;simp +contextual -implicitDefEqProofs (maxSteps := 1000000) (maxDischargeDepth := 8) only [iw, h0, h4, h6, hd, hc, aq, aa, implies_true, simprocAttr] at hX
  subst hX;exact dr (Or.inr ⟨hall, _, _, rfl, by simp only [hd, ao, Nat.reduceBEq ]⟩)
theorem sign_eq {s : cm} (hs : s.length < 1000000000) (PR : s ≠ []) : bA B K Ls [.str s] = some (.int .i64 (gN s : Int)) := by
 obtain ⟨c, s', rfl⟩ : ∃ c s', s = c :: s' := by cases s with | nil => exact absurd rfl PR | cons c s' => exact ⟨c, s', rfl⟩
 have AB : (c :: s')[0]? = some c := rfl
 generalize hS : c :: s' = s at *
 rw [cO (by simp [j7])]
 generalize hL : exec (UT B K) (aE.loop gp) = L
 generalize X2 : exec (UT B K) (aE.loop iw) = L1
 have hf : fu (eE 9 [.str []]) [(0, 1, .str [124, 124]), (1, 1, .str [38, 38]), (2, 1, .str [61, 61]), (3, 1, .str [33, 61]), (4, 1, .str [60, 61]), (5, 1, .str [62, 61]), (6, 1, .str [43, 37]), (7, 1, .str [45, 37]), (8, 1, .str [42, 37])] = some (D5.map .str) := by kernel_rfl
 simp +contextual -implicitDefEqProofs (maxSteps := 1000000) (maxDischargeDepth := 8) only [j7, b8, fA, hf, Nat.mul_one, aq, aa, implies_true, simprocAttr]
 subst hL;generalize hX : exec _ (.loop gp) _ _ = X
 obtain ⟨o, rfl, h⟩ := ft hX (SU (s := s) (ws := D5) hs (by decide) (b := nb aQ.next 0) (by simp +contextual -implicitDefEqProofs (maxSteps := 1000000) (maxDischargeDepth := 8) only [Hd, Hc, Hb, Ha, G9, G8, aa, implies_true, simprocAttr]; rfl) (by simp only [ao, simprocAttr]) (by simp only [ao, simprocAttr]; rfl) rfl (by simp only [ao, simprocAttr]) (by simp only [ao, simprocAttr]))
 rcases h with ⟨h, fr', m', rfl, h2, hd⟩ | ⟨h, fr', m', rfl, h0, h4, hd⟩
 ·have : gN s = 2 := by unfold gN; rw [if_pos h]
  simp +contextual -implicitDefEqProofs (maxSteps := 1000000) (maxDischargeDepth := 8) only [h2, hd, this, aq, aa, implies_true, simprocAttr]
 ·simp only [ao, Nat.reduceBEq ] at h4
  simp +contextual -implicitDefEqProofs (maxSteps := 1000000) (maxDischargeDepth := 8) only [h0, h4, hd, aq, aa, implies_true, simprocAttr]
  subst X2;generalize hX : exec _ (.loop iw) _ _ = X
  obtain ⟨o, rfl, h1⟩ := ft hX (SS (s := s) (os := S8) AB (by decide) (by simp only [h0, ao, Nat.reduceBEq ]) (by simp only [h4, ao, Nat.reduceBEq ]; rfl) (by simp only [ao, Nat.reduceBEq ]) (by simp only [hd, ao, Nat.reduceBEq ]))
  rcases h1 with ⟨h1, fr', m', rfl, h2, hd⟩ | ⟨h1, fr', m', rfl, hd⟩
  ·have : gN s = 1 := by unfold gN; rw [if_neg h, if_pos ⟨c, h1, AB⟩]
   simp +contextual -implicitDefEqProofs (maxSteps := 1000000) (maxDischargeDepth := 8) only [h2, hd, this, aq, aa, implies_true, simprocAttr]
  ·have : gN s = 0 := by
    unfold gN; rw [if_neg h, if_neg]
    rintro ⟨d, hd1, FV⟩
    rw [AB] at FV; cases FV; exact h1 hd1
   simp +contextual -implicitDefEqProofs (maxSteps := 1000000) (maxDischargeDepth := 8) only [hd, this, aq, aa, implies_true, simprocAttr]
end
section
theorem U7 {s : cm} (hs : s.length < 1000000000) {v1 v4 : EV} {m0 : Mem} {fr : Fr} (h0 : fr.get 0 = .str s) (h1 : fr.get 1 = v1) (h4 : fr.get 4 = v4) (h6 : fr.get 6 = .int .i64 0) (hd : fr.defers = []) :
  ∃ o, exec U (.loop jF) fr m0 = some o /\ ∃ fr', o = .exit 0 fr' m0 /\ fr'.get 0 = .str s /\ fr'.get 1 = v1 /\ fr'.get 4 = v4 /\ fr'.get 6 = .int .i64 (lead aR s : Int) /\ fr'.defers = [] := by
 refine fC (σ := Nat) (fun i fr m => m = m0 /\ i <= s.length /\ fr.get 0 = .str s /\ fr.get 1 = v1 /\ fr.get 4 = v4 /\ fr.get 6 = .int .i64 (i : Int) /\ lead aR s = i + lead aR (s.drop i) /\ fr.defers = []) (fun i => s.length - i) _ ?_ 0 fr m0 ⟨rfl, kW _, h0, h1, h4, h6, by simp, hd⟩
 rintro i fr m ⟨rfl, hi, h0, h1, h4, h6, hr, hd⟩
 generalize hX : exec U jF fr m = X
 by_cases bg : i < s.length
 ·have hc : (i : Int) < (s.length : Int) := by omega
  have hg : s[i]? = some s[i] := lp bg
  have ol := bJ (i := i) (by omega)
  rw [drop_cons bg, lead] at hr;generalize s[i] = c at hg hr
  simp +contextual -implicitDefEqProofs (maxSteps := 1000000) (maxDischargeDepth := 8) only [jF, h0, h1, h4, h6, hd, hc, hg, bg, ol, bi, vp, aq, aa, implies_true, simprocAttr] at hX
  subst hX;refine mC (fun hp => dq (i + 1) (by omega) ⟨rfl, bg, by simp only [h0, ao, Nat.reduceBEq ], by simp only [h1, ao, Nat.reduceBEq ], by simp only [h4, ao, Nat.reduceBEq ], by simp only [ao, Nat.reduceBEq ], ?_, by simp only [hd, ao, Nat.reduceBEq ]⟩) (fun hp => dr ⟨_, rfl, by simp only [h0, ao, Nat.reduceBEq ], by simp only [h1, ao, Nat.reduceBEq ], by simp only [h4, ao, Nat.reduceBEq ], ?_, by simp only [hd, ao, Nat.reduceBEq ]⟩)
  ·rw [if_pos hp] at hr; omega
  ·rw [if_neg hp] at hr; simp only [h6, hr, Nat.add_zero, ao, Nat.reduceBEq ]
 ·have hc : ¬ ((i : Int) < (s.length : Int)) := by omega
  simp +contextual -implicitDefEqProofs (maxSteps := 1000000) (maxDischargeDepth := 8) only [jF, h0, h1, h4, h6, hd, hc, aq, aa, implies_true, simprocAttr] at hX
  subst hX;obtain rfl : i = s.length := by omega
  rw [List.drop_length] at hr;simp only [lead, Nat.add_zero] at hr;exact dr ⟨_, rfl, by simp only [h0, ao, Nat.reduceBEq ], by simp only [h1, ao, Nat.reduceBEq ], by simp only [h4, ao, Nat.reduceBEq ], by simp only [h6, hr, ao, Nat.reduceBEq ], by simp only [hd, ao, Nat.reduceBEq ]⟩
theorem U6 {s : cm} (hs : s.length < 1000000000) {v1 v4 : EV} {m0 : Mem} {fr : Fr} (h0 : fr.get 0 = .str s) (h1 : fr.get 1 = v1) (h4 : fr.get 4 = v4) (h6 : fr.get 6 = .int .i64 0) (hd : fr.defers = []) :
  ∃ o, exec U (.loop jE) fr m0 = some o /\ ∃ fr', o = .exit 2 fr' m0 /\ fr'.get 0 = .str s /\ fr'.get 1 = v1 /\ fr'.get 4 = v4 /\ fr'.get 6 = .int .i64 (cP s : Int) /\ fr'.defers = [] := by
 refine fC (σ := Nat) (fun i fr m => m = m0 /\ i <= s.length /\ fr.get 0 = .str s /\ fr.get 1 = v1 /\ fr.get 4 = v4 /\ fr.get 6 = .int .i64 (i : Int) /\ (i = 0 \/ cP s = i + lead (fun n => cg n \/ aR n) (s.drop i)) /\ fr.defers = []) (fun i => s.length - i) _ ?_ 0 fr m0 ⟨rfl, kW _, h0, h1, h4, h6, .inl rfl, hd⟩
 rintro i fr m ⟨rfl, hi, h0, h1, h4, h6, hr, hd⟩
 generalize hX : exec U jE fr m = X
 by_cases bg : i < s.length
 ·have hc : (i : Int) < (s.length : Int) := by omega
  have hg : s[i]? = some s[i] := lp bg
  have ol := bJ (i := i) (by omega)
  have hi0 : ((0 : Int) < (i : Int)) = (i ≠ 0) := propext (by omega)
  have u7 : (i = 0 /\ cP s = if cg (cI s[i]) then 1 + lead (fun n => cg n \/ aR n) (s.drop (i + 1)) else 0) \/ (i ≠ 0 /\ cP s = i + if cg (cI s[i]) \/ aR (cI s[i]) then 1 + lead (fun n => cg n \/ aR n) (s.drop (i + 1)) else 0) := by
   by_cases h : i = 0
   ·subst h
    refine .inl ⟨rfl, ?_⟩
    have := drop_cons bg
    rw [List.drop_zero] at this
    conv => lhs; rw [this, cP]
   ·refine .inr ⟨h, ?_⟩
    rcases hr with hr | hr
    ·exact absurd hr h
    ·rw [drop_cons bg, lead] at hr; exact hr
  generalize s[i] = c at hg u7
  simp +contextual -implicitDefEqProofs (maxSteps := 1000000) (maxDischargeDepth := 8) only [jE, h0, h1, h4, h6, hd, hc, hg, bg, ol, hi0, bi, vp, GB, aq, aa, implies_true, simprocAttr] at hX
  subst hX;refine mC (fun hp => dq (i + 1) (by omega) ⟨rfl, bg, by simp only [h0, ao, Nat.reduceBEq ], by simp only [h1, ao, Nat.reduceBEq ], by simp only [h4, ao, Nat.reduceBEq ], by simp only [ao, Nat.reduceBEq ], .inr ?_, by simp only [hd, ao, Nat.reduceBEq ]⟩) (fun hp => dr ⟨_, rfl, by simp only [h0, ao, Nat.reduceBEq ], by simp only [h1, ao, Nat.reduceBEq ], by simp only [h4, ao, Nat.reduceBEq ], ?_, by simp only [hd, ao, Nat.reduceBEq ]⟩)
  ·rcases u7 with ⟨q, u7⟩ | ⟨q, u7⟩
   ·rw [if_pos (by rcases hp with h | h; exact h; exact absurd q h.1)] at u7; omega
   ·rw [if_pos (by rcases hp with h | h; exact .inl h; exact .inr h.2)] at u7; omega
  ·rcases u7 with ⟨q, u7⟩ | ⟨q, u7⟩
   ·rw [if_neg (fun h => hp (.inl h))] at u7; simp only [h6, u7, q, ao, Nat.reduceBEq ]
   ·rw [if_neg (fun h => hp (h.imp id fun h => ⟨q, h⟩)), Nat.add_zero] at u7; simp only [h6, u7, ao, Nat.reduceBEq ]
 ·have hc : ¬ ((i : Int) < (s.length : Int)) := by omega
  simp +contextual -implicitDefEqProofs (maxSteps := 1000000) (maxDischargeDepth := 8) only [jE, h0, h1, h4, h6, hd, hc, aq, aa, implies_true, simprocAttr] at hX
  subst hX;obtain rfl : i = s.length := by omega
  have hw : cP s = s.length := by
   rcases hr with hr | hr
   ·have := uH s; omega
   ·rw [List.drop_length] at hr; simpa [lead] using hr
  exact dr ⟨_, rfl, by simp only [h0, ao, Nat.reduceBEq ], by simp only [h1, ao, Nat.reduceBEq ], by simp only [h4, ao, Nat.reduceBEq ], by simp only [h6, hw, ao, Nat.reduceBEq ], by simp only [hd, ao, Nat.reduceBEq ]⟩
def S7 : AE Tok -> EV
 | .ok t => .tuple [.agg t.cells, .int .i64 0]
 | .bad e _ => .tuple [.agg [.int .i64 0, .str [], .int .i64 0, .int .i64 0], .int .i64 (e : Int)]
theorem U8 {s : cm} {p : Nat} (hs : s.length < 1000000000) (PR : s ≠ []) : bA B K Gx [.str s, .int .i64 (p : Int)] = some (S7 (mu s p)) := by
 have dD : 0 < s.length := List.length_pos_iff.2 PR
 have AB : s[0]? = some s[0] := lp dD
 have hle := lY aR s
 have Vx := OK (s := s.take (lead aR s)) (by rw [List.length_take]; omega) (wF aR s)
 have hsg := sign_eq hs PR
 have zx := td (p := p) dD
 rw [zx];generalize s[0] = c at AB
 have KI : ay (some (.int .i64 (lead aR s : Int))) s.length s.length = some (lead aR s) := cJ hle
 have XX : ay (some (.int .i64 (cP s : Int))) s.length s.length = some (cP s) := cJ (uH s)
 have XY : ay (some (.int .i64 (gN s : Int))) s.length s.length = some (gN s) := cJ (Ei dD)
 have Nm : ∀ n, ay none 0 n = some 0 := fun n => rfl
 rw [cO (by simp [ko])]
 generalize hL : exec (UT B K) (aE.loop jF) = L
 generalize X2 : exec (UT B K) (aE.loop jE) = L1
 by_cases KG : aR (cI c)
 ·have VO : aR (c.toNat : Int) := KG
  simp +contextual -implicitDefEqProofs (maxSteps := 1000000) (maxDischargeDepth := 8) only [ko, AB, dD, VO, zp, vp, aq, aa, implies_true, simprocAttr]
  subst hL;generalize hX : exec _ (.loop jF) _ _ = X
  obtain ⟨o, rfl, fr', rfl, h0, h1, h4, h6, hd⟩ := ft hX (U7 (s := s) hs (by simp only [ao, Nat.reduceBEq ]) rfl rfl (by simp only [ao, Nat.reduceBEq ]) (by simp only [ao, Nat.reduceBEq ]))
  simp only [ao, Nat.reduceBEq ] at h1 h4
  cases hn : rJ 0 (s.take (lead aR s)) with
  | none =>
   simp +contextual -implicitDefEqProofs (maxSteps := 1000000) (maxDischargeDepth := 8) only [h0, h1, h4, h6, hd, KI, Nm, Vx, hn, QJ, KG, FK, S7, Option.map_none, aq, aa, implies_true, simprocAttr]
  | some n =>
   simp +contextual -implicitDefEqProofs (maxSteps := 1000000) (maxDischargeDepth := 8) only [h0, h1, h4, h6, hd, KI, Nm, Vx, hn, QJ, KG, FK, S7, Tok.cells, Option.map_none, aq, aa, implies_true, simprocAttr]
 ·have VO : ¬ aR (c.toNat : Int) := KG
  have p0 : ((0 : Int) < (cP s : Int)) = (0 < cP s) := propext (by omega)
  have p32 : ((32 : Int) < (cP s : Int)) = (32 < cP s) := propext (by omega)
  have ps : ((gN s : Int) = 0) = (gN s = 0) := propext (by omega)
  simp +contextual -implicitDefEqProofs (maxSteps := 1000000) (maxDischargeDepth := 8) only [ko, AB, dD, VO, zp, vp, aq, aa, implies_true, simprocAttr]
  subst X2;generalize hX : exec _ (.loop jE) _ _ = X
  obtain ⟨o, rfl, fr', rfl, h0, h1, h4, h6, hd⟩ := ft hX (U6 (s := s) hs (by simp only [ao, Nat.reduceBEq ]) rfl rfl (by simp only [ao, Nat.reduceBEq ]) (by simp only [ao, Nat.reduceBEq ]))
  simp only [ao, Nat.reduceBEq ] at h1 h4;simp +contextual -implicitDefEqProofs (maxSteps := 1000000) (maxDischargeDepth := 8) only [h0, h1, h4, h6, hd, XX, XY, Nm, hsg, p0, p32, ps, KG, MC, Option.map_none, aq, aa, implies_true, simprocAttr]
  by_cases q1 : 0 < cP s /\ s.take (cP s) ∈ jm
  ·rw [wH q1, if_pos q1]; rfl
  ·rw [wI q1, if_neg q1]
   by_cases q2 : 32 < cP s
   ·rw [wH q2, if_pos q2]; rfl
   ·rw [wI q2, if_neg q2]
    by_cases q3 : 0 < cP s
    ·rw [wH q3, if_pos q3]; rfl
    ·rw [wI q3, if_neg q3]
     by_cases q4 : gN s = 0
     ·rw [wH q4, if_pos q4]; rfl
     ·rw [wI q4, if_neg q4]; rfl
end
section
theorem IX {s : cm} (hs : s.length < 1000000) {bx : Nat} {fr : Fr} {m0 : Mem} {p0 : Nat} (LR : p0 <= s.length) (hb : m0.get bx = .cells [.int .i64 0, .int .i64 0] 2 au false) (qA : bx < m0.next) (h0 : fr.get 0 = .str s) (h3 : fr.get 3 = .ptr bx 0) (h4 : fr.get 4 = .ae) (h5 : fr.get 5 = .int .i64 (p0 : Int)) (hd : fr.defers = []) {k0 : Nat} (JP : s.length - p0 < k0) :
  ∃ o, exec U (.loop fh) fr m0 = some o /\ ((∃ l : List Tok, jd k0 (s.drop p0) p0 = .ok l /\ ∃ fr' m', o = .exit 0 fr' m' /\ (∃ v, fr'.get 4 = v /\ ja m' v (jP l).flatten l.length 4 (bx + 1) /\ l.length <= s.length) /\ m'.get bx = .cells [.int .i64 0, .int .i64 0] 2 au false /\ bx < m'.next /\ fr'.get 0 = .str s /\ fr'.get 3 = .ptr bx 0 /\ fr'.defers = []) \/
   (∃ e p, jd k0 (s.drop p0) p0 = .bad e p /\ ∃ fr' m', o = .ret fr' m' /\ fr'.get 2 = .ae /\ m'.get bx = .cells [.int .i64 (e : Int), .int .i64 (p : Int)] 2 au false /\ fr'.get 3 = .ptr bx 0 /\ fr'.defers = [])) := by
 refine fC (σ := Nat) (fun p fr m => p <= s.length /\ fr.get 0 = .str s /\ fr.get 3 = .ptr bx 0 /\ (∃ (v : EV) (l : List Tok) (k : Nat), fr.get 4 = v /\ ja m v (jP l).flatten l.length 4 (bx + 1) /\ l.length <= p /\ s.length - p < k /\ jd k0 (s.drop p0) p0 = (jd k (s.drop p) p).map (l ++ ·)) /\ m.get bx = .cells [.int .i64 0, .int .i64 0] 2 au false /\ bx < m.next /\ fr.get 5 = .int .i64 (p : Int) /\ fr.defers = []) (fun p => s.length - p) _ ?_ p0 fr m0
  ⟨LR, h0, h3, ⟨.ae, [], k0, h4, ⟨.inl ⟨rfl, rfl, rfl⟩, rfl⟩, kW _, JP, by cases jd k0 (s.drop p0) p0 <;> rfl⟩, hb, qA, h5, hd⟩
 rintro p fr m ⟨hp, h0, h3, ⟨v, l, k, h4, cF, hlp, hk, hr⟩, hb, qA, h5, hd⟩
 generalize hX : exec U fh fr m = X
 by_cases bg : p < s.length
 ·have hc : (p : Int) < (s.length : Int) := by omega
  have iJ : s.drop p ≠ [] := by intro q; have := congrArg List.length q; rw [uE, List.length_nil] at this; omega
  have h1 := U8 (s := s.drop p) (p := p) (by rw [uE]; omega) iJ
  have KI : ay (some (.int .i64 (p : Int))) 0 s.length = some p := cJ hp
  have FX : ay none s.length s.length = some s.length := rfl
  obtain ⟨k, rfl⟩ : ∃ k', k = k' + 1 := ⟨k - 1, by omega⟩
  have Rm : jd (k + 1) (s.drop p) p = match mu (s.drop p) p with
   | .bad e q => .bad e q
   | .ok t => (jd k (((s.drop p).drop t.text.length).drop (cW false ((s.drop p).drop t.text.length))) (p + t.text.length + cW false ((s.drop p).drop t.text.length))).map (t :: ·) := by
   cases hsd : s.drop p with
   | nil => exact absurd hsd iJ
   | cons c r => rfl
  rw [Rm] at hr
  cases ho : mu (s.drop p) p with
  | bad e q =>
   simp only [ho, AE.map] at hr;obtain ⟨rfl, he0⟩ := Eu (by rw [uE]; omega) ho
   simp only [ho, S7] at h1;have abm : ¬ ((e : Int) = 0) := by omega
   simp +contextual -implicitDefEqProofs (maxSteps := 1000000) (maxDischargeDepth := 8) only [fh, h0, h3, h4, h5, hd, hc, KI, FX, h1, hb, qA, abm, List.take_length, Option.map_none, aq, aa, implies_true, simprocAttr] at hX
   subst hX;exact il (Or.inr ⟨e, q, hr, _, _, rfl, by simp only [ao, simprocAttr], by simp +contextual -implicitDefEqProofs (maxSteps := 1000000) (maxDischargeDepth := 8) only [hb, qA, Hd, Hc, Hb, Ha, G9, G8, aa, implies_true, simprocAttr], by simp only [h3, ao, simprocAttr], by simp only [hd, ao, simprocAttr]⟩)
  | ok t =>
   simp only [ho] at hr h1;obtain ⟨g1, g2, g3, g4⟩ := uW (by rw [uE]; omega) ho
   rw [uE] at g2;have FY : bA B K Gx [.str (s.drop p), .int .i64 (p : Int)] = some (.tuple [.agg [.int .i64 (t.kind : Int), .str t.text, .int .i64 (t.n : Int), .int .i64 (t.pos : Int)], .int .i64 0]) := h1
   clear h1;have hM : (ext m [fM.cells [EV.int .i64 (t.kind : Int), .str t.text, .int .i64 (t.n : Int), .int .i64 (t.pos : Int)] 4 ap false, fM.cells [EV.int .i64 (t.kind : Int), .str t.text, .int .i64 (t.n : Int), .int .i64 (t.pos : Int)] 4 ap false]).get (nb m.next 1) = .cells [EV.int .i64 (t.kind : Int), .str t.text, .int .i64 (t.n : Int), .int .i64 (t.pos : Int)] 4 ap false := by rw [aC rfl (by simp)]; rfl
   obtain ⟨ha, By⟩ := fg (e := ap) (cF.ext [fM.cells [EV.int .i64 (t.kind : Int), .str t.text, .int .i64 (t.n : Int), .int .i64 (t.pos : Int)] 4 ap false, fM.cells [EV.int .i64 (t.kind : Int), .str t.text, .int .i64 (t.n : Int), .int .i64 (t.pos : Int)] 4 ap false]) (by rw [ax]; unfold nb; omega) (mI (cap := some 1) hM rfl) rfl (by decide) (by unfold room; omega)
   rw [ax, dE] at ha;generalize hG : grow (ext m [fM.cells [EV.int .i64 (t.kind : Int), .str t.text, .int .i64 (t.n : Int), .int .i64 (t.pos : Int)] 4 ap false, fM.cells [EV.int .i64 (t.kind : Int), .str t.text, .int .i64 (t.n : Int), .int .i64 (t.pos : Int)] 4 ap false]) v ap 4 _ = M2 at ha By
   have Y4 : M2.next = nb m.next 3 := by rw [<- hG, gu, ax, dE]; rfl
   have hold : ∀ c, c < m.next -> gx v c -> M2.get c = m.get c := fun c hc ho => by
    rw [<- hG, iW (by rw [ax]; unfold nb; omega) ho, aG hc]
   have hg6 : M2.get (nb m.next 0) = .cells [EV.int .i64 (t.kind : Int), .str t.text, .int .i64 (t.n : Int), .int .i64 (t.pos : Int)] 4 ap false := by
    rw [<- hG, iW (by rw [ax]; unfold nb; simp) (show gx v (nb m.next 0) from cF.lt (.inl (eX _))), aC rfl (by simp)]; rfl
   have XR : M2.get bx = .cells [.int .i64 0, .int .i64 0] 2 au false := by rw [hold bx qA (cF.lt (.inr (by omega))), hb]
   have ol : IntKind.i64.wrap ((p : Int) + (t.text.length : Int)) = ((p + t.text.length : Nat) : Int) := by rw [wrap_i64 (by omega) (by omega)]; omega
   have Xu := MG (s := s.drop (p + t.text.length)) (by rw [uE]; omega)
   have Vr := Eh (s.drop (p + t.text.length)) false
   rw [uE] at Vr;have Tt : IntKind.i64.wrap (((p + t.text.length : Nat) : Int) + (cW false (s.drop (p + t.text.length)) : Int)) = ((p + t.text.length + cW false (s.drop (p + t.text.length)) : Nat) : Int) := by rw [wrap_i64 (by omega) (by omega)]; omega
   have abJ : ay (some (.int .i64 ((p + t.text.length : Nat) : Int))) 0 s.length = some (p + t.text.length) := cJ (by omega)
   simp +contextual -implicitDefEqProofs (maxSteps := 1000000) (maxDischargeDepth := 8) only [fh, h0, h3, h4, h5, hd, hc, KI, FX, FY, hb, qA, ha, Y4, hg6, XR, ol, Tt, Xu, abJ, List.take_length, Option.map_none, aq, aa, implies_true, simprocAttr] at hX
   subst hX;refine dq (p + t.text.length + cW false (s.drop (p + t.text.length))) (by omega) ⟨by omega, by simp only [h0, ao, Nat.reduceBEq ], by simp only [h3, ao, Nat.reduceBEq ], ⟨_, l ++ [t], k, by simp only [ao, Nat.reduceBEq ]; rfl, ?_, by simp only [kL, List.length_cons, List.length_nil]; omega, by omega, ?_⟩, XR, by rw [Y4]; unfold nb; omega, by simp only [ao, Nat.reduceBEq ], by simp only [hd, ao, Nat.reduceBEq ]⟩
   ·rw [AK, kL]; exact By
   ·rw [hr, AE.map_map]
    simp only [List.append_assoc, List.cons_append, List.nil_append, List.drop_drop]
 ·have hc : ¬ ((p : Int) < (s.length : Int)) := by omega
  simp +contextual -implicitDefEqProofs (maxSteps := 1000000) (maxDischargeDepth := 8) only [fh, h0, h3, h4, h5, hd, hc, aq, aa, implies_true, simprocAttr] at hX
  subst hX;obtain rfl : p = s.length := by omega
  obtain ⟨k, rfl⟩ : ∃ k', k = k' + 1 := ⟨k - 1, by omega⟩
  rw [List.drop_length] at hr;simp only [jd, AE.map, List.append_nil] at hr;exact dr (Or.inl ⟨l, hr, _, _, rfl, ⟨v, by simp only [h4, ao, Nat.reduceBEq ], cF, hlp⟩, hb, qA, by simp only [h0, ao, Nat.reduceBEq ], by simp only [h3, ao, Nat.reduceBEq ], by simp only [hd, ao, Nat.reduceBEq ]⟩)
theorem On {s : cm} (hs : s.length < 1000000) : bA B K HJ [.str s] = some (BR (xT s)) := by
 have hlen : xT s = if 65536 < s.length then .bad 3 0 else (jd (s.length + 1) (s.drop (cW false s)) (cW false s)).map (· ++ [⟨0, [], 0, s.length⟩]) := rfl
 have Xu := MG (s := s) (by omega)
 have Vr := Eh s false
 rw [cO (by simp [gb])]
 generalize hL : exec (UT B K) (aE.loop fh) = L
 by_cases h6 : 65536 < s.length
 ·have hc : (65536 : Int) < (s.length : Int) := by omega
  rw [hlen, if_pos h6];simp +contextual -implicitDefEqProofs (maxSteps := 1000000) (maxDischargeDepth := 8) only [gb, hc, BR, aq, aa, implies_true, simprocAttr]
 ·have hc : ¬ (65536 : Int) < (s.length : Int) := by omega
  rw [hlen, if_neg h6];simp +contextual -implicitDefEqProofs (maxSteps := 1000000) (maxDischargeDepth := 8) only [gb, hc, Xu, aq, aa, implies_true, simprocAttr]
  subst hL;generalize hX : exec _ (.loop fh) _ _ = X
  obtain ⟨o, rfl, h⟩ := ft hX (IX (s := s) hs (bx := nb aQ.next 0) (p0 := cW false s) Vr (by simp +contextual -implicitDefEqProofs (maxSteps := 1000000) (maxDischargeDepth := 8) only [Hd, Hc, Hb, Ha, G9, G8, aa, implies_true, simprocAttr]) (by rw [ax]; unfold nb; simp) (by simp only [ao, simprocAttr]) (by simp only [ao, simprocAttr]) (by simp only [ao, simprocAttr]) (by simp only [ao, simprocAttr]) (by simp only [ao, simprocAttr]) (k0 := s.length + 1) (by omega))
  rcases h with ⟨l, hl, fr', m', rfl, ⟨v, h4, cF, VB⟩, hb, qA, h0, h3, hd⟩ | ⟨e, p, hl, fr', m', rfl, h2, hb, h3, hd⟩
  ·rw [hl]
   have hM : (ext m' [.cells [EV.int .i64 0, .str [], .int .i64 0, .int .i64 (s.length : Int)] 4 ap false]).get (nb m'.next 0) = .cells [EV.int .i64 0, .str [], .int .i64 0, .int .i64 (s.length : Int)] 4 ap false := by rw [aC rfl (by simp)]; rfl
   obtain ⟨ha, By⟩ := fg (e := ap) (cF.ext [.cells [EV.int .i64 0, .str [], .int .i64 0, .int .i64 (s.length : Int)] 4 ap false]) (by rw [ax]; unfold nb; unfold nb at qA; omega) (mI (cap := some 1) hM rfl) rfl (by decide) (by unfold room; omega)
   have Tz := cF.lt (c := nb aQ.next 0) (.inr (Nat.lt_succ_self _))
   have XR : (grow (ext m' [.cells [EV.int .i64 0, .str [], .int .i64 0, .int .i64 (s.length : Int)] 4 ap false]) v ap 4 ((jP l).flatten ++ [EV.int .i64 0, .str [], .int .i64 0, .int .i64 (s.length : Int)])).get (nb aQ.next 0) = .cells [.int .i64 0, .int .i64 0] 2 au false := by
    rw [iW (by rw [ax]; unfold nb at qA ⊢; omega) Tz, aG qA]; exact hb
   rw [ax, dE] at ha;have jI := By
   have e1 : (jP l).flatten ++ [EV.int .i64 0, .str [], .int .i64 0, .int .i64 (s.length : Int)] = (jP (l ++ [⟨0, [], 0, s.length⟩])).flatten := (AK l ⟨0, [], 0, s.length⟩).symm
   generalize hG : grow _ v ap 4 _ = M2 at ha XR jI
   rw [e1] at jI;have hfz : kQ (M2.set (nb aQ.next 0) (.cells [.int .i64 0, .int .i64 0] 2 au false)) (.slice (nb (ext m' [.cells [EV.int .i64 0, .str [], .int .i64 0, .int .i64 (s.length : Int)] 4 ap false]).next 0) 0 (l.length + 1) none) = some (.fz 0 4 (jP (l ++ [⟨0, [], 0, s.length⟩]))) := by
    refine ja.Dn (jI.gD (eX _) fun c _ mU _ => aB ?_) (by simp [jP]) (by omega) (IV _) (D6 _)
    omega
   rw [ax, dE] at hfz;simp only [List.length_cons, List.length_nil, Nat.zero_add, Nat.add_zero] at hfz;simp +contextual -implicitDefEqProofs (maxSteps := 1000000) (maxDischargeDepth := 8) only [h0, h3, h4, hd, ha, XR, hfz, BR, AE.map, aq, aa, implies_true, simprocAttr]
  ·rw [hl]
   simp +contextual -implicitDefEqProofs (maxSteps := 1000000) (maxDischargeDepth := 8) only [h2, h3, hd, hb, BR, AE.map, aq, aa, implies_true, simprocAttr]
end
section
theorem IW {l : List Tok} {i : Nat} : (jP l)[i]? = (l[i]?).map Tok.cells := by unfold jP; rw [List.getElem?_map]
theorem AL {l : List Tok} : (jP l).length = l.length := by unfold jP; rw [List.length_map]
abbrev bf (tg : Nat) (l : List Tok) (st : RS) (tv hv : EV) : List EV := [.fz tg 4 (jP l), .int .i64 (st.pos : Int), .int .i64 st.deep, tv, hv, .int .i64 st.fe, .int .i64 st.fp]
theorem Tc {l : List Tok} {st : RS} (h : 0 < l.length) : l[min st.pos (l.length - 1)]? = some (st.now l) := by
 have : min st.pos (l.length - 1) < l.length := by omega
 rw [lp this];unfold RS.now;rw [List.getD_eq_getElem?_getD, lp this]; rfl
theorem D8 {tg : Nat} {l : List Tok} {st : RS} {tv hv : EV} {b : Nat} {m : Mem} (hl : 0 < l.length) (SC : l.length < 1000000000) (hp : st.pos < 1000000000) (hg : m.get b = .cells (bf tg l st tv hv) 7 ai false) (hb : b < m.next) :
  run U kH [.ptr b 0] m = some (.ret (.agg (st.now l).cells) (bump m 19)) := by
 rw [lW];have AB : ¬ ((l.length : Int) = 0) := by omega
 have hw : IntKind.i64.wrap ((l.length : Int) - 1) = ((l.length - 1 : Nat) : Int) := by rw [wrap_i64 (by omega) (by omega)]; omega
 have Pa : xG [.int .i64 (st.pos : Int), .int .i64 ((l.length - 1 : Nat) : Int)] = some (.int .i64 ((min st.pos (l.length - 1) : Nat) : Int)) := by
  simp only [xG, ni, Nat.beq_refl, cond_true]
  congr 2
  split <;> omega
 have bg : min st.pos (l.length - 1) < l.length := by omega
 have hn := Tc (st := st) hl
 obtain ⟨X, hE⟩ : ∃ X, pO bu.results (exec B0 bu.body (aa [.ptr b 0] 0 pz) m) = X := ⟨_, rfl⟩
 have hX := hE
 simp +contextual -implicitDefEqProofs (maxSteps := 1000000) (maxDischargeDepth := 8) only [bu, hg, hb, AB, hw, Pa, bg, hn, IW, AL, bi, Tok.cells, aq, aa, implies_true, simprocAttr] at hX
 subst hX;exact zh (by simp [bu]) hE rfl rfl (tu AU)
theorem lA {tg : Nat} {l : List Tok} {st : RS} {tv hv : EV} {b : Nat} {m : Mem} (hg : m.get b = .cells (bf tg l st tv hv) 7 ai false) (hb : b < m.next) :
  run U ju [.ptr b 0] m = some (.ret (bo (st.fe = 0)) (bump m 0)) := by
 rw [mD];obtain ⟨X, hE⟩ : ∃ X, pO bD.results (exec B1 bD.body (aa [.ptr b 0] 0 pz) m) = X := ⟨_, rfl⟩
 have hX := hE
 simp +contextual -implicitDefEqProofs (maxSteps := 1000000) (maxDischargeDepth := 8) only [bD, hg, hb, aq, aa, implies_true, simprocAttr] at hX
 subst hX;exact zh (by simp [bD]) hE rfl rfl EH
theorem To {tg : Nat} {l : List Tok} {st : RS} {tv hv : EV} {b : Nat} {m : Mem} {s : cm} (hl : 0 < l.length) (SC : l.length < 1000000000) (hp : st.pos < 1000000000) (hg : m.get b = .cells (bf tg l st tv hv) 7 ai false) (hb : b < m.next) :
  run U mQ [.ptr b 0, .str s] m = some (.ret (bo (st.is l s)) (bump m 20)) := by
 have h1 : ∀ M : Mem, M.get b = .cells (bf tg l st tv hv) 7 ai false -> b < M.next -> kP B0 bu [.ptr b 0] M = some (.ret (.agg (st.now l).cells) (bump M 19)) := fun M h1 h2 => by
  have := D8 (m := M) hl SC hp h1 h2
  rwa [lW] at this
 have h2 : ∀ M : Mem, M.get b = .cells (bf tg l st tv hv) 7 ai false -> b < M.next -> kP B1 bD [.ptr b 0] M = some (.ret (bo (st.fe = 0)) (bump M 0)) := fun M h1 h2 => by
  have := lA (m := M) h1 h2
  rwa [mD] at this
 rw [xq];have hk : ((3 : Int) <= ((st.now l).kind : Int)) = (3 <= (st.now l).kind) := propext (by omega)
 obtain ⟨X, hE⟩ : ∃ X, pO cC.results (exec B2 cC.body (aa [.ptr b 0, .str s] 0 pz) m) = X := ⟨_, rfl⟩
 have hX := hE
 simp +contextual -implicitDefEqProofs (maxSteps := 1000000) (maxDischargeDepth := 8) only [cC, rO, ti, h1, h2, hk, hg, hb, Tok.cells, aq, aa, implies_true, simprocAttr] at hX
 subst hX;exact zh (by simp [cC]) (by rw [hE, and_assoc]; rfl) rfl rfl (tu (LH (tu EH) bH))
structure KK (b tg : Nat) (l : List Tok) (st : RS) (tv hv : EV) : Prop where
 l0 : 0 < l.length
 l1 : l.length < 1000000000
 p : st.pos < 1000000000
 d : st.deep < 1000000000 /\ -1000000000 < st.deep
section
variable {tg : Nat} {l : List Tok} {st : RS} {tv hv : EV} {b : Nat} {m : Mem}
theorem KK.token (h : KK b tg l st tv hv) : ∀ M : Mem, M.get b = .cells (bf tg l st tv hv) 7 ai false -> b < M.next -> run U kH [.ptr b 0] M = some (.ret (.agg [.int .i64 ((st.now l).kind : Int), .str (st.now l).text, .int .i64 ((st.now l).n : Int), .int .i64 ((st.now l).pos : Int)]) (bump M 19)) := fun M h1 h2 => D8 h.l0 h.l1 h.p h1 h2
theorem KK.abW (_h : KK b tg l st tv hv) : ∀ M : Mem, M.get b = .cells (bf tg l st tv hv) 7 ai false -> b < M.next -> run U ju [.ptr b 0] M = some (.ret (bo (st.fe = 0)) (bump M 0)) := fun M h1 h2 => lA h1 h2
theorem KK.is (h : KK b tg l st tv hv) : ∀ (M : Mem) (s : cm), M.get b = .cells (bf tg l st tv hv) 7 ai false -> b < M.next -> run U mQ [.ptr b 0, .str s] M = some (.ret (bo (st.is l s)) (bump M 20)) := fun M s h1 h2 => To h.l0 h.l1 h.p h1 h2
structure qZ (m m' : Mem) (b : Nat) (B : fM) : Prop where
 n : m.next <= m'.next
 g : m'.get b = B
 k : ∀ c, c < m.next -> c ≠ b -> m'.get c = m.get c
theorem qZ.same {B : fM} {k : Nat} (h : m.get b = B) : qZ m (bump m k) b B := ⟨by rw [br]; exact bH, h, fun _ _ _ => rfl⟩
theorem qZ.set {B : fM} {m' : Mem} (hn : m.next <= m'.next) (hk : ∀ c, c < m.next -> c ≠ b -> m'.get c = m.get c) : qZ m (m'.set b B) b B := ⟨hn, bM, fun c hc iJ => by rw [aB iJ]; exact hk c hc iJ⟩
theorem qZ.trans {m' Ur : Mem} {B B' : fM} (h : qZ m m' b B) (h' : qZ m' Ur b B') : qZ m Ur b B' := ⟨pU h.n h'.n, h'.g, fun c hc iJ => (h'.k c (mr hc h.n) iJ).trans (h.k c hc iJ)⟩
theorem vi (hg : m.get b = .cells (bf tg l st tv hv) 7 ai false) (hb : b < m.next) (e p : Int) : ∃ m', run U ed [.ptr b 0, .int .i64 e, .int .i64 p] m = some (.ret (.tuple []) m') /\ qZ m m' b (.cells (bf tg l (st.fail e p) tv hv) 7 ai false) := by
 have hf : ∀ M : Mem, M.get b = .cells (bf tg l st tv hv) 7 ai false -> b < M.next -> run U ju [.ptr b 0] M = some (.ret (bo (st.fe = 0)) (bump M 0)) := fun M h1 h2 => lA h1 h2
 rw [bZ (by simp [dB])]
 by_cases h0 : st.fe = 0
 ·simp +contextual -implicitDefEqProofs (maxSteps := 1000000) (maxDischargeDepth := 8) only [dB, hf, hg, hb, h0, aq, aa, implies_true, simprocAttr]
  refine ⟨_, rfl, by rw [br]; exact bH, ?_, fun c hc iJ => aB iJ⟩
  rw [gF, bM]; simp only [RS.fail, if_pos h0]
 ·simp +contextual -implicitDefEqProofs (maxSteps := 1000000) (maxDischargeDepth := 8) only [dB, hf, hg, hb, h0, aq, aa, implies_true, simprocAttr]
  exact ⟨_, rfl, .same (by rw [hg]; simp only [RS.fail, if_neg h0])⟩
theorem I6 (h : KK b tg l st tv hv) (hg : m.get b = .cells (bf tg l st tv hv) 7 ai false) (hb : b < m.next) (s : cm) : ∃ m', run U aX [.ptr b 0, .str s] m = some (.ret (bo (st.is l s)) m') /\ qZ m m' b (.cells (bf tg l (st.skip l s) tv hv) 7 ai false) := by
 have hi := h.is
 have hw := bJ (i := st.pos) (by have := h.p; omega)
 rw [bZ (by simp [dz])]
 by_cases h0 : st.is l s
 ·simp +contextual -implicitDefEqProofs (maxSteps := 1000000) (maxDischargeDepth := 8) only [dz, hi, hg, hb, h0, hw, gl, aq, aa, implies_true, simprocAttr]
  refine ⟨_, rfl, by rw [br]; exact bH, ?_, fun c hc iJ => aB iJ⟩
  rw [gF, bM]; simp only [RS.skip, RS.next, if_pos h0]
 ·simp +contextual -implicitDefEqProofs (maxSteps := 1000000) (maxDischargeDepth := 8) only [dz, hi, hg, hb, h0, fG, aq, aa, implies_true, simprocAttr]
  exact ⟨_, rfl, .same (by rw [hg]; simp only [RS.skip, if_neg h0])⟩
theorem Py (h : KK b tg l st tv hv) (hg : m.get b = .cells (bf tg l st tv hv) 7 ai false) (hb : b < m.next) : ∃ m', run U dH [.ptr b 0] m = some (.ret (.tuple []) m') /\ qZ m m' b (.cells (bf tg l st.close tv hv) 7 ai false) := by
 have hw : IntKind.i64.wrap (st.deep - 1) = st.deep - 1 := by have := h.d; exact wrap_i64 (by omega) (by omega)
 rw [bZ (by simp [dQ])]
 simp +contextual -implicitDefEqProofs (maxSteps := 1000000) (maxDischargeDepth := 8) only [dQ, hg, hb, hw, aq, aa, implies_true, simprocAttr]
 exact ⟨_, rfl, .set (eX _) fun _ _ _ => rfl⟩
theorem KK.fail (h : KK b tg l st tv hv) (e p : Int) : KK b tg l (st.fail e p) tv hv := by
 unfold RS.fail; split
 ·exact ⟨h.l0, h.l1, h.p, h.d⟩
 ·exact h
theorem PZ (h : KK b tg l st tv hv) (hg : m.get b = .cells (bf tg l st tv hv) 7 ai false) (hb : b < m.next) (s : cm) : ∃ m', run U aS [.ptr b 0, .str s] m = some (.ret (bo (st.is l s)) m') /\ qZ m m' b (.cells (bf tg l (st.want l s) tv hv) 7 ai false) := by
 obtain ⟨m1, e1, u1⟩ := I6 h hg hb s
 rw [bZ (by simp [dy])]
 by_cases h0 : st.is l s
 ·simp +contextual -implicitDefEqProofs (maxSteps := 1000000) (maxDischargeDepth := 8) only [dy, e1, h0, gl, aq, aa, implies_true, simprocAttr]
  refine ⟨_, rfl, ?_⟩
  simp only [RS.skip, RS.next, if_pos h0] at u1;simp only [RS.want, RS.next, if_pos h0]; exact u1
 ·have Xu : st.skip l s = st := by unfold RS.skip; rw [if_neg h0]
  rw [Xu] at u1;have A2 : b < m1.next := mr hb u1.n
  have ht := h.token m1 u1.g A2
  obtain ⟨m2, e2, u2⟩ := vi (m := bump m1 19) u1.g (mr A2 bH) 8 ((st.now l).pos : Int)
  have Vz : ([EV.int .i64 ((st.now l).kind : Int), .str (st.now l).text, .int .i64 ((st.now l).n : Int), .int .i64 ((st.now l).pos : Int)] : List EV)[3]? = some (.int .i64 ((st.now l).pos : Int)) := rfl
  simp +contextual -implicitDefEqProofs (maxSteps := 1000000) (maxDischargeDepth := 8) only [dy, e1, h0, ht, e2, Vz, fG, aq, aa, implies_true, simprocAttr]
  refine ⟨_, rfl, ?_⟩
  simp only [RS.want, if_neg h0];exact u1.trans ⟨pU bH u2.n, u2.g, fun c hc iJ => u2.k c (mr hc bH) iJ⟩
theorem QC (h : KK b tg l st tv hv) (hg : m.get b = .cells (bf tg l st tv hv) 7 ai false) (hb : b < m.next) (p : Int) : ∃ m', run U eM [.ptr b 0, .int .i64 p] m = some (.ret (bo ((st.open p).fe = 0)) m') /\ qZ m m' b (.cells (bf tg l (st.open p) tv hv) 7 ai false) := by
 have hd := h.d
 have hw : IntKind.i64.wrap (st.deep + 1) = st.deep + 1 := wrap_i64 (by omega) (by omega)
 rw [bZ (by simp [dA])]
 have pR : b < (m.set b (.cells (bf tg l { st with deep := st.deep + 1 } tv hv) 7 ai false)).next := hb
 have hg0 : (m.set b (.cells (bf tg l { st with deep := st.deep + 1 } tv hv) 7 ai false)).get b = .cells (bf tg l { st with deep := st.deep + 1 } tv hv) 7 ai false := bM
 by_cases h0 : 200 < st.deep + 1
 ·obtain ⟨m1, e1, u1⟩ := vi (st := { st with deep := st.deep + 1 }) hg0 pR 4 p
  have ho : st.open p = (({ st with deep := st.deep + 1 } : RS).fail 4 p) := by simp only [RS.open, if_pos h0]
  rw [ho];have hfn := lA u1.g (mr hb u1.n)
  generalize hfs : (({ st with deep := st.deep + 1 } : RS).fail 4 p) = fs at *
  simp +contextual -implicitDefEqProofs (maxSteps := 1000000) (maxDischargeDepth := 8) only [dA, hg, hb, hw, h0, e1, hfn, aq, aa, implies_true, simprocAttr]
  refine ⟨_, rfl, ?_, u1.g, fun c hc iJ => ?_⟩
  ·rw [br]; exact pU u1.n bH
  ·rw [gF, u1.k c hc iJ, aB iJ]
 ·have ho : st.open p = { st with deep := st.deep + 1 } := by simp only [RS.open, if_neg h0]
  rw [ho];have hfn := lA hg0 pR
  simp +contextual -implicitDefEqProofs (maxSteps := 1000000) (maxDischargeDepth := 8) only [dA, hg, hb, hw, h0, hfn, aq, aa, implies_true, simprocAttr]
  exact ⟨_, rfl, by rw [br]; exact bH, bM, fun c hc iJ => aB iJ⟩
end
end
section
def is (l : List Int) : List EV := l.map fun x => .int .i64 x
def Sv (l : List Nat) : List EV := l.map fun (x : Nat) => .int .i64 (x : Int)
theorem LJ {l : List Int} : (is l).length = l.length := List.length_map ..
structure Nv where
 d : Nd
 kv : EV
def wz (d : Nd) (kv : EV) : List EV := [.int .i64 d.kind, kv, .int .i64 d.n, .str d.s, .int .i64 d.pos]
def Nv.cells (x : Nv) : List EV := wz x.d x.kv
def IL (xs : List Nv) : List EV := (xs.map Nv.cells).flatten
theorem QH {xs : List Nv} {x : Nv} : IL (xs ++ [x]) = IL xs ++ x.cells := by simp [IL]
structure UQ (b : Nat) (tv hv : EV) (c : Nat) : Prop where
 ne : c ≠ b
 t : gx tv c
 h : gx hv c
structure BG (m : Mem) (b : Nat) (tv hv : EV) (d : Nd) (kv : EV) : Prop where
 o : ja m kv (is d.kids) d.kids.length 1 0
 f : ∀ c, ¬ gx kv c -> UQ b tv hv c
 nl : d.nl = d.kids.isEmpty
 z : d.kids = [] -> kv = .ae
structure Fp (m : Mem) (b tg : Nat) (l : List Tok) (st : RS) (P : Nat -> Prop) (tv hv : EV) (xs : List Nv) : Prop where
 g : m.get b = .cells (bf tg l st tv hv) 7 ai false
 lt : b < m.next
 t : ja m tv (IL xs) xs.length 5 (b + 1)
 h : ja m hv (Sv st.high) st.high.length 1 (b + 1)
 a : ∀ c, ¬ gx tv c -> gx hv c
 x : xs.map Nv.d = st.tree
 hl : st.high.length = st.tree.length
 k : ∀ x ∈ xs, BG m b tv hv x.d x.kv
 p : ∀ c, P c -> c < m.next /\ UQ b tv hv c
 pk : ∀ c, P c -> ∀ x ∈ xs, gx x.kv c
def Rd (m : Mem) (b tg : Nat) (l : List Tok) (st : RS) (P : Nat -> Prop) : Prop := ∃ tv hv xs, Fp m b tg l st P tv hv xs
structure Kp (m m' : Mem) (P : Nat -> Prop) : Prop where
 n : m.next <= m'.next
 k : ∀ c, P c -> m'.get c = m.get c
theorem Kp.trans {m m' Ur : Mem} {P : Nat -> Prop} (h : Kp m m' P) (h' : Kp m' Ur P) : Kp m Ur P := ⟨pU h.n h'.n, fun c hc => (h'.k c hc).trans (h.k c hc)⟩
theorem Kp.bQ {m m' : Mem} {P Q : Nat -> Prop} (h : Kp m m' P) (hq : ∀ c, Q c -> P c) : Kp m m' Q := ⟨h.n, fun c hc => h.k c (hq c hc)⟩
theorem ja.QK {m : Mem} {v : EV} {cs : List EV} {n esz lo : Nat} (h : ja m v cs n esz lo) {c : Nat} (hc : ¬ gx v c) : lo <= c /\ c < m.next := by
 rcases h.is with ⟨rfl, _⟩ | ⟨b, cap, t, rfl, h1, h2, _⟩
 ·exact absurd gx.nil hc
 ·by_cases q : c = b
  ·subst q; exact ⟨h1, h2⟩
  ·exact absurd (gx.of q) hc
section
variable {m : Mem} {b tg : Nat} {l : List Tok} {st : RS} {P : Nat -> Prop} {tv hv : EV} {xs : List Nv}
theorem Fp.Ok (h : Fp m b tg l st P tv hv xs) {m' : Mem} {st' : RS} (ht : st'.tree = st.tree) (hh : st'.high = st.high) (u : qZ m m' b (.cells (bf tg l st' tv hv) 7 ai false)) : Fp m' b tg l st' P tv hv xs where
 g := u.g
 lt := mr h.lt u.n
 t := h.t.gD u.n fun c hc mU _ => u.k c hc (by omega)
 h := by rw [hh]; exact h.h.gD u.n fun c hc mU _ => u.k c hc (by omega)
 a := h.a
 x := h.x.trans ht.symm
 hl := by rw [hh, ht]; exact h.hl
 k := fun x hx => ⟨(h.k x hx).o.gD u.n fun c hc _ ho => u.k c hc ((h.k x hx).f c ho).ne, (h.k x hx).f, (h.k x hx).nl, (h.k x hx).z⟩
 p := fun c hc => ⟨mr (h.p c hc).1 u.n, (h.p c hc).2⟩
 pk := h.pk
theorem Fp.kp (h : Fp m b tg l st P tv hv xs) {m' : Mem} {B : fM} (u : qZ m m' b B) : Kp m m' P := ⟨u.n, fun c hc => u.k c (h.p c hc).1 (h.p c hc).2.ne⟩
theorem qZ.bump {B : fM} {k : Nat} (h : m.get b = B) : qZ m (bump m k) b B := .same h
theorem qZ.ext {B : fM} {ys : List fM} (h : m.get b = B) (hb : b < m.next) : qZ m (Ev.ext m ys) b B := ⟨by rw [ax]; exact bH, by rw [aG hb]; exact h, fun c hc _ => aG hc⟩
theorem Fp.more (h : Fp m b tg l st P tv hv xs) {Q : Nat -> Prop} (hq : ∀ c, Q c -> P c \/ (c < m.next /\ UQ b tv hv c /\ ∀ x ∈ xs, gx x.kv c)) : Fp m b tg l st Q tv hv xs :=
 ⟨h.g, h.lt, h.t, h.h, h.a, h.x, h.hl, h.k, fun c hc => (hq c hc).elim (h.p c) fun q => ⟨q.1, q.2.1⟩, fun c hc => (hq c hc).elim (h.pk c) fun q => q.2.2⟩
theorem Fp.fresh (h : Fp m b tg l st P tv hv xs) {c : Nat} (hc : m.next <= c) : UQ b tv hv c := ⟨by have := h.lt; omega, h.t.lt (.inl hc), h.h.lt (.inl hc)⟩
theorem Fp.RR (h : Fp m b tg l st P tv hv xs) {c : Nat} (hc : m.next <= c) : ∀ x ∈ xs, gx x.kv c := fun x hx => (h.k x hx).o.lt (.inl hc)
theorem Qw {v3 : EV} {kids : List Int} {nl : EV} {lo : Nat} {fr : Fr} {m0 : Mem} (h : Fp m0 b tg l st P tv hv xs) (hH : ∀ x ∈ st.high, x <= 200) (ho : ja m0 nl (is kids) kids.length 1 lo) (GM : kids.length < 1000000000) (hhl : st.high.length < 1000000000) (hd0 : fr.get 0 = .ptr b 0) (h5 : fr.get 5 = .int .i64 1) (h9 : fr.get 9 = nl) (CW : fr.get 10 = .int .i64 (kids.length : Int)) (IR : fr.get 11 = .int .i64 0) (h3 : fr.get 3 = v3) (hd : fr.defers = []) :
  ∃ o, exec U (.loop cf) fr m0 = some o /\ ∃ fr', o = .exit 0 fr' m0 /\ fr'.get 0 = .ptr b 0 /\ fr'.get 5 = .int .i64 (oq st.high kids : Int) /\ fr'.get 3 = v3 /\ fr'.defers = [] := by
 have Pc : ∀ (ks : List Int) (a : Nat), a <= 201 -> ks.foldl (Nl st.high) a <= 201 := by
  intro ks
  induction ks with
  | nil => intro a ha; exact ha
  | cons x ks ih =>
   intro a ha
   rw [List.foldl_cons];refine ih _ ?_
   unfold Nl
   split
   ·rename_i q
    have hx : x.toNat < st.high.length := by omega
    have := hH _ (BI hx)
    rw [List.getD_eq_getElem?_getD, lp hx, Option.getD_some];omega
   ·exact ha
 refine fC (σ := Nat) (fun j fr m => m = m0 /\ j <= kids.length /\ fr.get 0 = .ptr b 0 /\ fr.get 5 = .int .i64 (((kids.take j).foldl (Nl st.high) 1 : Nat) : Int) /\ fr.get 9 = nl /\ fr.get 10 = .int .i64 (kids.length : Int) /\ fr.get 11 = .int .i64 (j : Int) /\ fr.get 3 = v3 /\ fr.defers = []) (fun j => kids.length - j) _ ?_ 0 fr m0
  ⟨rfl, kW _, hd0, h5, h9, CW, IR, h3, hd⟩
 rintro j fr m ⟨rfl, hj, hd0, h5, h9, CW, IR, h3, hd⟩
 generalize hX : exec U cf fr m = X
 by_cases bg : j < kids.length
 ·have hc : (j : Int) < (kids.length : Int) := by omega
  rcases ho.is with ⟨_, q, _⟩ | ⟨kb, cap, t, rfl, h1, h2, V1, h4⟩
  ·omega
  have FT : (kids.take (j + 1)).foldl (Nl st.high) 1 = Nl st.high ((kids.take j).foldl (Nl st.high) 1) kids[j] := by
   rw [List.take_add_one, lp bg, Option.toList_some, List.foldl_append]; rfl
  have hle := Pc (kids.take j) 1 (by omega)
  have hk : (is kids)[j]? = some (.int .i64 kids[j]) := by unfold is; rw [List.getElem?_map, lp bg]; rfl
  generalize hA : (kids.take j).foldl (Nl st.high) 1 = A at *
  generalize hx : kids[j] = x at *
  have hw : IntKind.i64.wrap ((j : Int) + 1) = ((j + 1 : Nat) : Int) := by rw [wrap_i64 (by omega) (by omega)]; omega
  have hg := h.g
  have hb := h.lt
  by_cases hr : 0 <= x /\ x < (st.high.length : Int)
  ·obtain ⟨WB, Vv⟩ := hr
   obtain ⟨n, rfl⟩ : ∃ n : Nat, x = (n : Int) := ⟨x.toNat, by omega⟩
   have hn : n < st.high.length := by omega
   rcases h.h.is with ⟨_, q, _⟩ | ⟨BX, JV, ht, rfl, g1, g2, g3, g4⟩
   ·omega
   have hxn := hH _ (BI hn)
   have hh : (Sv st.high)[n]? = some (.int .i64 (st.high[n] : Int)) := by unfold Sv; rw [List.getElem?_map, lp hn]; rfl
   generalize hY : st.high[n] = y at *
   have Tt : IntKind.i64.wrap ((y : Int) + 1) = ((y + 1 : Nat) : Int) := by rw [wrap_i64 (by omega) (by omega)]; omega
   have zy : uu [.int .i64 (A : Int), .int .i64 ((y + 1 : Nat) : Int)] = some (.int .i64 ((max A (y + 1) : Nat) : Int)) := by
    simp only [uu, lV, Nat.beq_refl, cond_true]
    congr 2
    split <;> omega
   simp +contextual -implicitDefEqProofs (maxSteps := 1000000) (maxDischargeDepth := 8) only [cf, hd0, h5, h9, CW, IR, hd, hc, hk, V1, hg, hb, hh, g3, WB, Vv, hn, bg, bi, Nat.mul_one, hw, Tt, zy, aq, aa, implies_true, simprocAttr] at hX
   subst hX;refine dq (j + 1) (by omega) ⟨rfl, by omega, by simp only [hd0, ao, Nat.reduceBEq ], ?_, by simp only [h9, ao, Nat.reduceBEq ], by simp only [CW, ao, Nat.reduceBEq ], by simp only [ao, Nat.reduceBEq ], by simp only [h3, ao, Nat.reduceBEq ], by simp only [hd, ao, Nat.reduceBEq ]⟩
   rw [FT, Nl, if_pos ⟨WB, Vv⟩, Int.toNat_natCast, List.getD_eq_getElem?_getD, lp hn, Option.getD_some, hY];simp only [ao, Nat.reduceBEq ]
  ·have u7 : ¬ (x < (st.high.length : Int)) \/ ¬ (0 <= x) := by omega
   by_cases WB : 0 <= x
   ·have Vv : ¬ (x < (st.high.length : Int)) := by omega
    rcases h.h.is with ⟨rfl, q, q2⟩ | ⟨BX, JV, ht, rfl, g1, g2, g3, g4⟩
    ·rw [q] at Vv
     have abe : ¬ (x < 0) := by omega
     simp +contextual -implicitDefEqProofs (maxSteps := 1000000) (maxDischargeDepth := 8) only [cf, hd0, h5, h9, CW, IR, hd, hc, hk, V1, hg, hb, WB, abe, bg, bi, Nat.mul_one, hw, aq, aa, implies_true, simprocAttr] at hX
     subst hX;refine dq (j + 1) (by omega) ⟨rfl, by omega, by simp only [hd0, ao, Nat.reduceBEq ], ?_, by simp only [h9, ao, Nat.reduceBEq ], by simp only [CW, ao, Nat.reduceBEq ], by simp only [ao, Nat.reduceBEq ], by simp only [h3, ao, Nat.reduceBEq ], by simp only [hd, ao, Nat.reduceBEq ]⟩
     rw [FT, Nl, if_neg hr];simp only [h5, ao, Nat.reduceBEq ]
    ·simp +contextual -implicitDefEqProofs (maxSteps := 1000000) (maxDischargeDepth := 8) only [cf, hd0, h5, h9, CW, IR, hd, hc, hk, V1, hg, hb, WB, Vv, bg, bi, Nat.mul_one, hw, aq, aa, implies_true, simprocAttr] at hX
     subst hX;refine dq (j + 1) (by omega) ⟨rfl, by omega, by simp only [hd0, ao, Nat.reduceBEq ], ?_, by simp only [h9, ao, Nat.reduceBEq ], by simp only [CW, ao, Nat.reduceBEq ], by simp only [ao, Nat.reduceBEq ], by simp only [h3, ao, Nat.reduceBEq ], by simp only [hd, ao, Nat.reduceBEq ]⟩
     rw [FT, Nl, if_neg hr];simp only [h5, ao, Nat.reduceBEq ]
   ·simp +contextual -implicitDefEqProofs (maxSteps := 1000000) (maxDischargeDepth := 8) only [cf, hd0, h5, h9, CW, IR, hd, hc, hk, V1, hg, hb, WB, bg, bi, Nat.mul_one, hw, aq, aa, implies_true, simprocAttr] at hX
    subst hX;refine dq (j + 1) (by omega) ⟨rfl, by omega, by simp only [hd0, ao, Nat.reduceBEq ], ?_, by simp only [h9, ao, Nat.reduceBEq ], by simp only [CW, ao, Nat.reduceBEq ], by simp only [ao, Nat.reduceBEq ], by simp only [h3, ao, Nat.reduceBEq ], by simp only [hd, ao, Nat.reduceBEq ]⟩
    rw [FT, Nl, if_neg hr];simp only [h5, ao, Nat.reduceBEq ]
 ·have hc : ¬ (j : Int) < (kids.length : Int) := by omega
  obtain rfl : j = kids.length := by omega
  simp +contextual -implicitDefEqProofs (maxSteps := 1000000) (maxDischargeDepth := 8) only [cf, CW, IR, hc, hd, aq, aa, implies_true, simprocAttr] at hX
  subst hX;rw [List.take_length] at h5;exact dr ⟨_, rfl, by simp only [hd0, ao, Nat.reduceBEq ], by simp only [h5, oq, ao, Nat.reduceBEq ], by simp only [h3, ao, Nat.reduceBEq ], by simp only [hd, ao, Nat.reduceBEq ]⟩
end
end
section
section
variable {m : Mem} {b tg : Nat} {l : List Tok} {st : RS} {P : Nat -> Prop} {tv hv : EV} {xs : List Nv}
theorem Qv (h : Fp m b tg l st P tv hv xs) (hH : ∀ x ∈ st.high, x <= 200) (LP : st.tree.length < 1000000) {d : Nd} {kv : EV} (hk : BG m b tv hv d kv) (hpk : ∀ c, P c -> gx kv c) (GM : d.kids.length < 1000000000) : ∃ m', run U aD [.ptr b 0, .agg (wz d kv)] m = some (.ret (.int .i64 (st.iI d)) m') /\ Rd m' b tg l (st.put d) P /\ Kp m m' P := by
 rw [bZ (by simp [eI])]
 generalize hL : exec (UT B K) (aE.loop cf) = L
 have hg := h.g
 have hb := h.lt
 have GL : BS kv (ext m [.cells (wz d kv) 5 ba false]) = some (.val (.int .i64 (d.kids.length : Int)) (ext m [.cells (wz d kv) 5 ba false])) := by
  rcases hk.o.is with ⟨rfl, q, _⟩ | ⟨kb, cap, t, rfl, _⟩
  ·rw [q]; rfl
  ·rfl
 unfold wz at *
 simp +contextual -implicitDefEqProofs (maxSteps := 1000000) (maxDischargeDepth := 8) only [eI, GL, aq, aa, implies_true, simprocAttr]
 subst hL;generalize hX : exec _ (.loop cf) _ _ = X
 have h1 := h.Ok (st' := st) rfl rfl (qZ.ext (ys := [.cells [.int .i64 d.kind, kv, .int .i64 d.n, .str d.s, .int .i64 d.pos] 5 ba false]) hg hb)
 have KF : BG (ext m [.cells [.int .i64 d.kind, kv, .int .i64 d.n, .str d.s, .int .i64 d.pos] 5 ba false]) b tv hv d kv := ⟨hk.o.ext _, hk.f, hk.nl, hk.z⟩
 have qA : (ext m [.cells [.int .i64 d.kind, kv, .int .i64 d.n, .str d.s, .int .i64 d.pos] 5 ba false]).get (nb m.next 0) = .cells [.int .i64 d.kind, kv, .int .i64 d.n, .str d.s, .int .i64 d.pos] 5 ba false := by rw [aC rfl (by simp)]; rfl
 obtain ⟨o, rfl, fr', rfl, f0, f5, f3, fd⟩ := ft hX (Qw (v3 := .ptr (nb m.next 0) 0) h1 hH (hk.o.ext _) GM (by rw [h.hl]; omega) (by simp only [ao, Nat.reduceBEq ]) (by simp only [ao, Nat.reduceBEq ]) (by simp only [ao, Nat.reduceBEq ]) (by simp only [ao, Nat.reduceBEq ]) (by simp only [ao, Nat.reduceBEq ]) (by simp only [ao, Nat.reduceBEq ]) (by simp only [ao, Nat.reduceBEq ]))
 clear hX;have hB1 := hb
 generalize pM : ext m [.cells [.int .i64 d.kind, kv, .int .i64 d.n, .str d.s, .int .i64 d.pos] 5 ba false] = M1 at *
 have IP : M1.next = nb m.next 1 := by rw [<- pM, ax]; rfl
 have kp1 : Kp m M1 P := ⟨by rw [IP]; exact bH, fun c hc => by rw [<- pM, aG (h.p c hc).1]⟩
 have hg1 := h1.g
 have A2 := h1.lt
 have VW : nb m.next 0 < M1.next := by rw [IP]; unfold nb; simp
 by_cases hi : 200 < oq st.high d.kids
 ·have xF : (200 : Int) < (oq st.high d.kids : Int) := by omega
  obtain ⟨m2, e2, u2⟩ := vi h1.g h1.lt 4 d.pos
  have jh : ¬ (st.fail 4 d.pos).fe = 0 := by
   unfold RS.fail; split
   ·simp
   ·assumption
  have LR : st.pQ d = st.fail 4 d.pos := if_pos hi
  have hp : st.put d = st.fail 4 d.pos := by rw [RS.put, LR, if_neg jh]
  have hr : st.iI d = -1 := by rw [RS.iI, LR, if_neg jh]
  have h2 := h1.Ok (st' := st.fail 4 d.pos) (by unfold RS.fail; split <;> rfl) (by unfold RS.fail; split <;> rfl) u2
  have hf := lA h2.g h2.lt
  have kp2 := kp1.trans (h1.kp u2)
  rw [hp, hr];generalize st.fail 4 d.pos = st2 at *
  simp +contextual -implicitDefEqProofs (maxSteps := 1000000) (maxDischargeDepth := 8) only [f0, f5, f3, fd, xF, qA, hg1, A2, VW, e2, hf, jh, fG, aq, aa, implies_true, simprocAttr]
  exact ⟨_, rfl, ⟨_, _, _, h2.Ok rfl rfl (qZ.bump h2.g)⟩, kp2.trans (h2.kp (qZ.bump h2.g))⟩
 ·have xF : ¬ (200 : Int) < (oq st.high d.kids : Int) := by omega
  have LR : st.pQ d = st := if_neg hi
  have hf := lA h1.g h1.lt
  by_cases jh : st.fe = 0
  ·have hp : st.put d = { st with tree := st.tree ++ [d], high := st.high ++ [oq st.high d.kids] } := by rw [RS.put, LR, if_pos jh]
   have hr : st.iI d = (st.tree.length : Int) := by rw [RS.iI, LR, if_pos jh]
   rw [hp, hr];rw [eA jh] at hf;simp +contextual -implicitDefEqProofs (maxSteps := 1000000) (maxDischargeDepth := 8) only [f0, f5, f3, fd, xF, qA, hg1, A2, VW, hf, aq, aa, implies_true, simprocAttr]
   generalize hA : fV _ ba 5 tv _ = A
   generalize tA : Mem.mk (nb M1.next 22) _ = D1 at hA ⊢
   have tU : D1.next = nb M1.next 22 := by rw [<- tA]
   have E5 : ∀ c, c < M1.next -> D1.get c = M1.get c := fun c hc => by
    rw [<- tA];exact (aG (m := Mem.mk (nb M1.next 0 + 7) (bump (bump M1 0) 22).gM) (by show c < nb M1.next 0 + 7; unfold nb; omega)).trans rfl
   have Il : D1.get (nb (nb M1.next 0 + 7) 0) = .cells [.int .i64 d.kind, kv, .int .i64 d.n, .str d.s, .int .i64 d.pos] 5 ba false := by
    rw [<- tA];exact (aC (m := Mem.mk (nb M1.next 0 + 7) (bump (bump M1 0) 22).gM) rfl (by simp)).trans rfl
   clear tA;have YV : ja D1 tv (IL xs) xs.length 5 (b + 1) := h1.t.gD (by rw [tU]; exact bH) fun c hc _ _ => E5 c hc
   have ho2 : ja D1 hv (Sv st.high) st.high.length 1 (b + 1) := h1.h.gD (by rw [tU]; exact bH) fun c hc _ _ => E5 c hc
   have Tq : xs.length = st.tree.length := by rw [<- h.x, List.length_map]
   obtain ⟨a1, o1⟩ := fg (e := ba) YV (by rw [tU]; unfold nb; omega) (mI (cap := some 1) Il rfl) rfl (by decide) (by unfold room; omega)
   rw [a1] at hA;subst hA;have Ya : (grow D1 tv ba 5 (IL xs ++ [.int .i64 d.kind, kv, .int .i64 d.n, .str d.s, .int .i64 d.pos])).next = nb M1.next 23 := by rw [gu, tU, dE]
   have X9 : ∀ c, c < D1.next -> gx tv c -> (grow D1 tv ba 5 (IL xs ++ [.int .i64 d.kind, kv, .int .i64 d.n, .str d.s, .int .i64 d.pos])).get c = D1.get c := fun c hc ho => iW hc ho
   generalize grow D1 tv ba 5 _ = G1 at *
   have hbt : gx tv b := YV.lt (.inr (Nat.lt_succ_self _))
   have KI : b < D1.next := by rw [tU]; unfold nb; omega
   have VL : G1.get b = .cells (bf tg l st tv hv) 7 ai false := by rw [X9 b KI hbt, E5 b A2, hg1]
   have abB : D1.get b = .cells (bf tg l st tv hv) 7 ai false := by rw [E5 b A2, hg1]
   have ev : Hm (some hv) hv = true := nv (by rcases ho2.is with ⟨rfl, _⟩ | ⟨_, _, _, rfl, _⟩ <;> rfl)
   simp +contextual -implicitDefEqProofs (maxSteps := 1000000) (maxDischargeDepth := 8) only [f0, f5, f3, fd, VL, abB, tU, Ya, dE, ev, aq, aa, implies_true, simprocAttr]
   generalize hA : fV _ aP 1 hv _ = A
   generalize TJ : Mem.mk (nb M1.next 23) _ = D2 at hA ⊢
   have PW : D2.next = nb M1.next 23 := by rw [<- TJ]
   have WS : ∀ c, c ≠ nb M1.next 0 + 14 -> D2.get c = G1.get c := fun c hc => by
    rw [<- TJ];exact ((fw (m := Mem.mk (nb M1.next 0 + 14) G1.gM)).trans (if_neg hc)).trans rfl
   have d2g : D2.get (nb (nb M1.next 0 + 14) 0) = .cells [.int .i64 (oq st.high d.kids : Int)] 1 aP false := by
    rw [<- TJ];exact ((fw (m := Mem.mk (nb M1.next 0 + 14) G1.gM)).trans (if_pos rfl)).trans rfl
   clear TJ;have WI : ∀ c, c < M1.next -> c ≠ nb M1.next 0 + 14 /\ c < D1.next := fun c hc => by rw [tU]; unfold nb; omega
   have hold : ∀ c, c < M1.next -> gx tv c -> D2.get c = M1.get c := fun c hc ho => by rw [WS c (WI c hc).1, X9 c (WI c hc).2 ho, E5 c hc]
   have ho3 : ja D2 hv (Sv st.high) st.high.length 1 (b + 1) := h1.h.gD (by rw [PW]; exact bH) fun c hc _ ho => hold c hc (B9 fun q => ho (h1.a c q))
   obtain ⟨a2, o2⟩ := fg (e := aP) ho3 (by rw [PW]; unfold nb; omega) (mI (cap := some 1) d2g rfl) rfl (by decide) (by unfold room; rw [h.hl]; omega)
   rw [a2] at hA;subst hA;have g2n : (grow D2 hv aP 1 (Sv st.high ++ [.int .i64 (oq st.high d.kids : Int)])).next = nb M1.next 24 := by rw [gu, PW, dE]
   have g2o : ∀ c, c < D2.next -> gx hv c -> (grow D2 hv aP 1 (Sv st.high ++ [.int .i64 (oq st.high d.kids : Int)])).get c = D2.get c := fun c hc ho => iW hc ho
   generalize grow D2 hv aP 1 _ = G2 at *
   have hbh : gx hv b := h1.h.lt (.inr (Nat.lt_succ_self _))
   have hg3 : G2.get b = .cells (bf tg l st tv hv) 7 ai false := by rw [g2o b (by rw [PW]; unfold nb; omega) hbh, hold b A2 hbt, hg1]
   have hw : IntKind.i64.wrap (((xs.length + 1 : Nat) : Int) - 1) = (st.tree.length : Int) := by rw [wrap_i64 (by omega) (by omega)]; omega
   have hall : ∀ c, c < M1.next -> c ≠ b -> gx tv c -> gx hv c -> ∀ B, (G2.set b B).get c = M1.get c := fun c hc iJ FY X5 B => by
    rw [aB iJ, g2o c (by rw [PW]; unfold nb; omega) X5, hold c hc FY]
   simp +contextual -implicitDefEqProofs (maxSteps := 1000000) (maxDischargeDepth := 8) only [f0, f5, f3, fd, hg3, g2n, PW, tU, dE, hw, aq, aa, implies_true, simprocAttr]
   generalize Y5 : Mem.set _ b (.cells [.fz tg 4 (jP l), .int .i64 (st.pos : Int), .int .i64 st.deep, .slice (nb M1.next 22) 0 (xs.length + 1) none, .slice (nb M1.next 23) 0 (st.high.length + 1) none, .int .i64 st.fe, .int .i64 st.fp] 7 ai false) = M3
   have Ws : M3.next = nb M1.next 24 := by rw [<- Y5, cq, cq, g2n]
   have m3b : M3.get b = .cells [.fz tg 4 (jP l), .int .i64 (st.pos : Int), .int .i64 st.deep, .slice (nb M1.next 22) 0 (xs.length + 1) none, .slice (nb M1.next 23) 0 (st.high.length + 1) none, .int .i64 st.fe, .int .i64 st.fp] 7 ai false := by rw [<- Y5, bM]
   have m3o : ∀ c, c ≠ b -> M3.get c = G2.get c := fun c hc => by rw [<- Y5, aB hc, aB hc]
   clear Y5;have UF : ∀ c, c < M1.next -> UQ b tv hv c -> M3.get c = M1.get c := fun c hc hf => by
    rw [m3o c hf.ne, <- hall c hc hf.ne hf.t hf.h .dead, aB hf.ne]
   have ur : ∀ c, c < M1.next -> c ≠ b -> UQ b (.slice (nb M1.next 22) 0 (xs.length + 1) none) (.slice (nb M1.next 23) 0 (st.high.length + 1) none) c := fun c hc iJ => ⟨iJ, gx.of (by unfold nb; omega), gx.of (by unfold nb; omega)⟩
   have Tz : ∀ (k n c : Nat), ¬ gx (.slice (nb M1.next k) 0 n none) c -> c = nb M1.next k := fun k n c q => B9 fun w => q (gx.of w)
   have XM : ∀ (d : Nd) (kv : EV), BG M1 b tv hv d kv -> BG M3 b (.slice (nb M1.next 22) 0 (xs.length + 1) none) (.slice (nb M1.next 23) 0 (st.high.length + 1) none) d kv := fun d kv q =>
    ⟨q.o.gD (by rw [Ws]; exact bH) fun c hc _ ho => UF c hc (q.f c ho), fun c ho => ur c (q.o.QK ho).2 (q.f c ho).ne, q.nl, q.z⟩
   refine ⟨M3, rfl, ⟨.slice (nb M1.next 22) 0 (xs.length + 1) none, .slice (nb M1.next 23) 0 (st.high.length + 1) none, xs ++ [⟨d, kv⟩], ?_⟩, kp1.trans ⟨by rw [Ws]; exact bH, fun c hc => UF c (h1.p c hc).1 (h1.p c hc).2⟩⟩
   refine ⟨m3b, by rw [Ws]; unfold nb; omega, ?_, ?_, ?_, ?_, ?_, ?_, ?_, ?_⟩
   ·rw [QH, kL]
    rw [tU, dE] at o1;refine o1.gD (by rw [Ya, Ws]; unfold nb; omega) fun c hc mU ho => ?_
    rw [Tz _ _ _ ho, m3o _ (by unfold nb; omega), g2o _ (by rw [PW]; unfold nb; omega) (h1.h.lt (.inl bH)), WS _ (by unfold nb; omega)]
   ·rw [kL]
    rw [PW, dE] at o2;have e1 : Sv (st.high ++ [oq st.high d.kids]) = Sv st.high ++ [.int .i64 (oq st.high d.kids : Int)] := by simp [Sv]
    rw [e1];exact o2.gD (by rw [g2n, Ws]; exact eX _) fun c hc mU ho => m3o c (by omega)
   ·intro c q
    rw [Tz _ _ _ q];exact gx.of (by unfold nb; omega)
   ·rw [List.map_append, h.x]; rfl
   ·rw [kL, kL, h.hl]; rfl
   ·intro x hx
    rcases uD.1 hx with hx | hx
    ·exact XM _ _ (h1.k x hx)
    ·rw [yl.1 hx]; exact XM _ _ KF
   ·exact fun c hc => ⟨by have := (h1.p c hc).1; rw [Ws]; unfold nb; omega, ur c (h1.p c hc).1 (h1.p c hc).2.ne⟩
   ·intro c hc x hx
    rcases uD.1 hx with hx | hx
    ·exact h1.pk c hc x hx
    ·rw [yl.1 hx]; exact hpk c hc
  ·have hp : st.put d = st := by rw [RS.put, LR, if_neg jh]
   have hr : st.iI d = -1 := by rw [RS.iI, LR, if_neg jh]
   rw [hp, hr];simp +contextual -implicitDefEqProofs (maxSteps := 1000000) (maxDischargeDepth := 8) only [f0, f5, f3, fd, xF, qA, hg1, A2, VW, hf, jh, fG, aq, aa, implies_true, simprocAttr]
   exact ⟨_, rfl, ⟨_, _, _, h1.Ok rfl rfl (qZ.bump h1.g)⟩, kp1.trans (h1.kp (qZ.bump h1.g))⟩
theorem S3 {Q : Nat -> Prop} (h : Rd m b tg l st Q) (hH : ∀ x ∈ st.high, x <= 200) (LP : st.tree.length < 1000000) {d : Nd} {kv : EV} (ho : ja m kv (is d.kids) d.kids.length 1 0) (hp : ∀ c, ¬ gx kv c -> Q c) (hq : ∀ c, P c -> Q c /\ gx kv c) (XG : d.nl = d.kids.isEmpty) (hz : d.kids = [] -> kv = .ae) (GM : d.kids.length < 1000000000) : ∃ m', run U aD [.ptr b 0, .agg [.int .i64 d.kind, kv, .int .i64 d.n, .str d.s, .int .i64 d.pos]] m = some (.ret (.int .i64 (st.iI d)) m') /\ Rd m' b tg l (st.put d) P /\ Kp m m' P := by
 obtain ⟨tv, hv, xs, h⟩ := h
 exact Qv (h.more fun c hc => .inl (hq c hc).1) hH LP ⟨ho, fun c hc => (h.p c (hp c hc)).2, XG, hz⟩ (fun c hc => (hq c hc).2) GM
end
end
section
def Pr (P : Nat -> Prop) (n n' : Nat) : Nat -> Prop := fun c => P c \/ (n <= c /\ c < n')
theorem ja.Vf {m : Mem} {v : EV} {cs : List EV} {n esz lo : Nat} (h : ja m v cs n esz lo) : ja m v cs n esz 0 := by
 refine ⟨?_, h.len⟩
 rcases h.is with h | ⟨b, cap, t, rfl, h1, h2, h3, h4⟩
 ·exact .inl h
 ·exact .inr ⟨b, cap, t, rfl, kW _, h2, h3, h4⟩
section
variable {m M : Mem} {b tg : Nat} {l : List Tok} {st : RS} {P Q : Nat -> Prop}
theorem Rd.lt (h : Rd m b tg l st P) : b < m.next := by obtain ⟨tv, hv, xs, h⟩ := h; exact h.lt
theorem Rd.bQ (h : Rd m b tg l st P) (hq : ∀ c, Q c -> P c) : Rd m b tg l st Q := by
 obtain ⟨tv, hv, xs, h⟩ := h; exact ⟨tv, hv, xs, h.more fun c hc => .inl (hq c hc)⟩
theorem Rd.grown (h : Rd m b tg l st P) (hn : m.next <= M.next) (hk : ∀ c, c < m.next -> M.get c = m.get c) : Rd M b tg l st (Pr P m.next M.next) := by
 obtain ⟨tv, hv, xs, h⟩ := h
 have u : qZ m M b (.cells (bf tg l st tv hv) 7 ai false) := ⟨hn, by rw [hk b h.lt]; exact h.g, fun c hc _ => hk c hc⟩
 exact ⟨tv, hv, xs, (h.Ok rfl rfl u).more fun c hc => hc.elim .inl fun q => .inr ⟨q.2, h.fresh q.1, h.RR q.1⟩⟩
theorem Rd.same (h : Rd m b tg l st P) (hn : m.next <= M.next) (hk : ∀ c, c < m.next -> M.get c = m.get c) : Rd M b tg l st P := (h.grown hn hk).bQ fun c hc => .inl hc
theorem dk {ys : List fM} (h : Rd m b tg l st P) : Rd (ext m ys) b tg l st P := h.same (by rw [ax]; exact bH) fun c hc => aG hc
theorem ak {k : Nat} (h : Rd m b tg l st P) : Rd (bump m k) b tg l st P := h.same (by rw [br]; exact bH) fun c hc => rfl
theorem Rd.kp (h : Rd m b tg l st P) (hn : m.next <= M.next) (hk : ∀ c, c < m.next -> M.get c = m.get c) : Kp m M P := by
 obtain ⟨tv, hv, xs, h⟩ := h; exact ⟨hn, fun c hc => hk c (h.p c hc).1⟩
theorem Rd.box (h : Rd m b tg l st P) (n : Nat) (ys : List fM) : Rd (ext (bump m n) ys) b tg l st (Pr P m.next (nb m.next (n + ys.length))) := by
 have := h.grown (M := ext (bump m n) ys) (by rw [ax, br, dE]; exact bH) fun c hc => aG (m := bump m n) (by rw [br]; exact mr hc bH)
 rw [ax, br, dE] at this;exact this
theorem Vi (h : Rd m b tg l st P) (n : Nat) (ys : List fM) : Kp m (ext (bump m n) ys) P := h.kp (by rw [ax, br, dE]; exact bH) fun c hc => aG (m := bump m n) (by rw [br]; exact mr hc bH)
theorem Rd.It (h : Rd m b tg l st P) (ys : List fM) : Rd (ext m ys) b tg l st (Pr P m.next (nb m.next ys.length)) := by
 have := h.grown (M := ext m ys) (by rw [ax]; exact bH) fun c hc => aG hc
 rw [ax] at this;exact this
theorem lZ (h : Rd m b tg l st P) (ys : List fM) : Kp m (ext m ys) P := h.kp (by rw [ax]; exact bH) fun c hc => aG hc
theorem CB {m : Mem} {cs : List EV} {n e : Nat} (h : cs.length = n) : ja (ext m [.cells cs 1 e false]) (.slice (nb m.next 0) 0 n (some n)) cs n 1 0 :=
 ⟨.inr ⟨nb m.next 0, some n, e, rfl, kW _, by rw [ax]; unfold nb; simp, by rw [aC rfl (by simp)]; rfl, .inr rfl⟩, by omega⟩
theorem cu {bb o n c : Nat} {cap : Option Nat} (h : ¬ gx (.slice bb o n cap) c) : c = bb := B9 fun w => h (gx.of w)
theorem Rd.mB (h : Rd m b tg l st P) {c : Nat} (hc : P c) : c < m.next := by obtain ⟨tv, hv, xs, h⟩ := h; exact (h.p c hc).1
theorem og {n i j : Nat} (h : i < j) : Pr P n (nb n j) (nb n i) := .inr ⟨bH, by unfold nb; omega⟩
theorem aU {k : Nat} (h : Rd m b tg l st P) : Kp m (bump m k) P := h.kp (by rw [br]; exact bH) fun _ _ => rfl
theorem LD {ys : List fM} (h : Rd m b tg l st P) : Kp m (ext m ys) P := h.kp (by rw [ax]; exact bH) fun c hc => aG hc
theorem eJ.U1 (o : eJ l st) (ht : bT l) {tv hv : EV} : KK b tg l st tv hv := ⟨ht.pos, by have := ht.lt; omega, by have := ht.lt; have := o.p; omega, by have := ht.lt; have := o.p; have := o.d; have := o.d0; omega⟩
section
variable (ht : bT l) (o : eJ l st)
include ht o
theorem jR : ∀ M : Mem, Rd M b tg l st P -> run U kH [.ptr b 0] M = some (.ret (.agg [.int .i64 ((st.now l).kind : Int), .str (st.now l).text, .int .i64 ((st.now l).n : Int), .int .i64 ((st.now l).pos : Int)]) (bump M 19)) := fun M h => by
 obtain ⟨tv, hv, xs, h⟩ := h; exact (o.U1 ht (tv := tv) (hv := hv)).token M h.g h.lt
theorem Vl : ∀ (M : Mem) (s : cm), Rd M b tg l st P -> run U mQ [.ptr b 0, .str s] M = some (.ret (bo (st.is l s)) (bump M 20)) := fun M s h => by
 obtain ⟨tv, hv, xs, h⟩ := h; exact (o.U1 ht (tv := tv) (hv := hv)).is M s h.g h.lt
end
theorem J1 : ∀ M : Mem, Rd M b tg l st P -> run U ju [.ptr b 0] M = some (.ret (bo (st.fe = 0)) (bump M 0)) := fun M h => by
 obtain ⟨tv, hv, xs, h⟩ := h; exact lA h.g h.lt
variable {X : Option Fin}
theorem J5 (h : Rd m b tg l st P) {e p : Int} (hX : run U ed [.ptr b 0, .int .i64 e, .int .i64 p] m = X) : ∃ m', X = some (.ret (.tuple []) m') /\ Rd m' b tg l (st.fail e p) P /\ Kp m m' P := by
 obtain ⟨tv, hv, xs, h⟩ := h
 obtain ⟨m', e', u⟩ := vi h.g h.lt e p
 exact ⟨m', hX.symm.trans e', ⟨_, _, _, h.Ok c9.2.2.1 c9.2.2.2 u⟩, h.kp u⟩
theorem pg (ht : bT l) (o : eJ l st) (h : Rd m b tg l st P) {s : cm} (hX : run U aX [.ptr b 0, .str s] m = X) : ∃ m', X = some (.ret (bo (st.is l s)) m') /\ Rd m' b tg l (st.skip l s) P /\ Kp m m' P := by
 obtain ⟨tv, hv, xs, h⟩ := h
 obtain ⟨m', e', u⟩ := I6 (o.U1 ht) h.g h.lt s
 exact ⟨m', hX.symm.trans e', ⟨_, _, _, h.Ok (by unfold RS.skip; split <;> rfl) (by unfold RS.skip; split <;> rfl) u⟩, h.kp u⟩
theorem od (ht : bT l) (o : eJ l st) (h : Rd m b tg l st P) {s : cm} (hX : run U aS [.ptr b 0, .str s] m = X) : ∃ m', X = some (.ret (bo (st.is l s)) m') /\ Rd m' b tg l (st.want l s) P /\ Kp m m' P := by
 obtain ⟨tv, hv, xs, h⟩ := h
 obtain ⟨m', e', u⟩ := PZ (o.U1 ht) h.g h.lt s
 have q : (st.want l s).tree = st.tree /\ (st.want l s).high = st.high := by
  unfold RS.want; split
  ·exact ⟨rfl, rfl⟩
  ·exact c9.2.2
 exact ⟨m', hX.symm.trans e', ⟨_, _, _, h.Ok q.1 q.2 u⟩, h.kp u⟩
theorem Jg (ht : bT l) (o : eJ l st) (h : Rd m b tg l st P) {p : Int} (hX : run U eM [.ptr b 0, .int .i64 p] m = X) : ∃ m', X = some (.ret (bo ((st.open p).fe = 0)) m') /\ Rd m' b tg l (st.open p) P /\ Kp m m' P := by
 obtain ⟨tv, hv, xs, h⟩ := h
 obtain ⟨m', e', u⟩ := QC (o.U1 ht) h.g h.lt p
 have q : (st.open p).tree = st.tree /\ (st.open p).high = st.high := by
  unfold RS.open; split
  ·exact (c9 (st := { st with deep := st.deep + 1 })).2.2
  ·exact ⟨rfl, rfl⟩
 exact ⟨m', hX.symm.trans e', ⟨_, _, _, h.Ok q.1 q.2 u⟩, h.kp u⟩
theorem Bd (ht : bT l) (o : eJ l st) (h : Rd m b tg l st P) (hX : run U dH [.ptr b 0] m = X) : ∃ m', X = some (.ret (.tuple []) m') /\ Rd m' b tg l st.close P /\ Kp m m' P := by
 obtain ⟨tv, hv, xs, h⟩ := h
 obtain ⟨m', e', u⟩ := Py (o.U1 ht) h.g h.lt
 exact ⟨m', hX.symm.trans e', ⟨_, _, _, h.Ok rfl rfl u⟩, h.kp u⟩
theorem pP (ht : bT l) (o : eJ l st) (h : Rd m b tg l st Q) {kind n p : Int} {s : cm} {kids : List Int} {kv : EV} (GM : kids.length < 1000000) (ho : ja m kv (is kids) kids.length 1 0) (hp : ∀ c, ¬ gx kv c -> Q c) (hq : ∀ c, P c -> Q c /\ gx kv c) (hz : kids = [] -> kv = .ae) (hX : run U aD [.ptr b 0, .agg [.int .i64 kind, kv, .int .i64 n, .str s, .int .i64 p]] m = X) : ∃ m', X = some (.ret (.int .i64 (st.iI (nd kind kids n s p))) m') /\ Rd m' b tg l (st.put (nd kind kids n s p)) P /\ Kp m m' P := by
 obtain ⟨m', e', r, k⟩ := S3 (d := nd kind kids n s p) h o.h (by have := o.t; have := o.p; have := ht.lt; omega) ho hp hq rfl hz (by show kids.length < _; omega)
 exact ⟨m', hX.symm.trans e', r, k⟩
end
def Cq : List cm := [[124, 124], [38, 38], [61, 61], [33, 61], [60], [60, 61], [62], [62, 61], [43], [45], [43, 37], [45, 37], [42], [47], [37], [42, 37]]
theorem U5 (s : cm) : bA B K Lw [.str s] = some (.agg [.int .i64 (mL s).1, .int .i64 (mL s).2]) := by
 have ER : s ∈ Cq \/ s ∉ Cq := Classical.em _
 rcases ER with h | h
 ·simp only [Cq, o6, List.not_mem_nil, or_false] at h
  rcases h with rfl | rfl | rfl | rfl | rfl | rfl | rfl | rfl | rfl | rfl | rfl | rfl | rfl | rfl | rfl | rfl
  all_goals exact Bo 20 fun _ => by kernel_rfl
 ·simp only [Cq, o6, List.not_mem_nil, or_false, not_or] at h
  obtain ⟨h0, h1, h2, h3, h4, h5, h6, h7, h8, h9, CW, IR, KJ, TL, h14, h15⟩ := h
  rw [cO (by simp [kc])]
  have ho : mL s = (0, 0) := by simp only [mL, if_neg h0, if_neg h1, if_neg h2, if_neg h3, if_neg h4, if_neg h5, if_neg h6, if_neg h7, if_neg h8, if_neg h9, if_neg CW, if_neg IR, if_neg KJ, if_neg TL, if_neg h14, if_neg h15]
  rw [ho];simp -implicitDefEqProofs (maxSteps := 1000000) only [kc, h0, h1, h2, h3, h4, h5, h6, h7, h8, h9, CW, IR, KJ, TL, h14, h15, fG, aq, aa, reduceIte, reduceCtorEq, Nat.reduceEqDiff, Nat.reduceBEq, Nat.reduceAdd, Int.reduceLT, Int.reduceLE, Int.reduceEq, Int.reduceToNat, Int.reduceNeg, Nat.reduceLeDiff, Int.reducePow, implies_true, UInt8.reduceToNat, Int.reduceSub, Int.reduceAdd, Nat.reduceLT, Nat.reduceMul, Nat.reduceSub, Nat.reduceBNe]
end
section
def rm (l : List Tok) (tg f : Nat) (av : List EV) (k : Nat) (c : gU) : Prop := ∀ (st : RS) (m : Mem) (b : Nat) (P : Nat -> Prop) (s1 : RS) (r : List Int) (X : Option Fin), eJ l st -> 8 * (l.length - st.pos) + c.bn < k -> jz l k c st = some (s1, r) -> Rd m b tg l st P -> run U f (.ptr b 0 :: av) m = X -> ∃ m', X = some (.ret (.int .i64 (r.headD 0)) m') /\ Rd m' b tg l s1 P /\ Kp m m' P
theorem jV {r : List Int} (h : r.length = 1) : ∃ x, r = [x] := by
 match r, h with
 | [x], _ => exact ⟨x, rfl⟩
section
variable {l : List Tok} {tg : Nat} (ht : bT l) {k : Nat}
include ht
theorem Po (ih : rm l tg e9 [.int .i64 1] k (.mg 1)) : rm l tg aY [] (k + 1) .expr := by
 intro st m b P s1 r X o hk bO h hX
 have nS : 8 * (l.length - st.pos) + (gU.mg 1).bn < k := by simp only [gU.bn] at *; omega
 obtain ⟨s2, r2, e, g, a, _⟩ := go_ok ht k (.mg 1) st o.p nS trivial
 obtain ⟨x, rfl⟩ := jV a
 simp only [jz, e, Option.bind_some, bj, eQ] at bO;obtain ⟨rfl, rfl⟩ := bO
 rw [bZ (by simp [er])] at hX
 simp +contextual -implicitDefEqProofs (maxSteps := 1000000) (maxDischargeDepth := 8) only [er, aq, aa, implies_true, simprocAttr] at hX
 generalize hC : run U e9 _ m = C at hX
 obtain ⟨m1, rfl, h1, k1⟩ := ih st m b P _ _ _ o nS e h hC
 have hf := J1 (b := b) (tg := tg) (l := l) (st := s2) (P := P)
 by_cases jh : s2.fe = 0
 ·simp +contextual -implicitDefEqProofs (maxSteps := 1000000) (maxDischargeDepth := 8) only [hf, h1, jh, dk, ak, aq, aa, implies_true, simprocAttr] at hX
  subst hX;simp only [jh, if_true];exact ⟨_, rfl, ak h1, k1.trans (aU h1)⟩
 ·simp +contextual -implicitDefEqProofs (maxSteps := 1000000) (maxDischargeDepth := 8) only [hf, h1, jh, fG, dk, ak, aq, aa, implies_true, simprocAttr] at hX
  subst hX;simp only [jh, if_false];exact ⟨_, rfl, ak h1, k1.trans (aU h1)⟩
theorem LM {a z : cm} (ih : rm l tg aY [] k .expr) : rm l tg cz [.str a, .str z] (k + 1) (.inner a z) := by
 intro st m b P s1 r X o hk bO h hX
 rw [bZ (by simp [dP])] at hX
 have hT := jR (b := b) (tg := tg) (P := P) ht o
 simp +contextual -implicitDefEqProofs (maxSteps := 1000000) (maxDischargeDepth := 8) only [dP, hT, h, dk, ak, aq, aa, implies_true, simprocAttr] at hX
 generalize hC : run U aS _ _ = C at hX
 obtain ⟨m1, rfl, h1, k1⟩ := od ht o (ak h) hC
 clear hC;have k1 : Kp m m1 P := (aU h).trans k1
 by_cases ha : st.is l a
 ·have hn := is_lt ht o.p ha
  have hw : st.want l a = st.next := by unfold RS.want; rw [if_pos ha]
  rw [hw] at h1;have on : eJ l st.next := (Gr.next hn).ok o
  rw [eA ha] at hX;simp +contextual -implicitDefEqProofs (maxSteps := 1000000) (maxDischargeDepth := 8) only [aq, aa, implies_true, simprocAttr] at hX
  generalize hC : run U eM _ _ = C at hX
  obtain ⟨m2, rfl, h2, k2⟩ := Jg ht on h1 hC
  clear hC;have go := Gr.open hn (p := ((st.now l).pos : Int))
  have oo := go.ok o
  obtain ⟨o1, o2, o3⟩ := lM (st := st.next) (p := ((st.now l).pos : Int))
  simp only [jz, if_pos ha] at bO;by_cases hf : (st.next.open (st.now l).pos).fe = 0
  ·rw [if_pos hf] at bO
   rw [eA hf] at hX;have nS : 8 * (l.length - (st.next.open (st.now l).pos).pos) + gU.expr.bn < k := by rw [o1]; simp only [gU.bn, RS.next] at *; omega
   obtain ⟨s2, r2, e, g, ar, _⟩ := go_ok ht k .expr _ go.pl nS trivial
   obtain ⟨x, rfl⟩ := jV ar
   simp only [e, Option.bind_some, bj, eQ] at bO;obtain ⟨rfl, rfl⟩ := bO
   simp +contextual -implicitDefEqProofs (maxSteps := 1000000) (maxDischargeDepth := 8) only [aq, aa, implies_true, simprocAttr] at hX
   generalize hC : run U aY _ _ = C at hX
   obtain ⟨m3, rfl, h3, k3⟩ := ih _ _ _ _ _ _ _ oo nS e h2 hC
   clear hC;have Xc := g.ok oo
   simp +contextual -implicitDefEqProofs (maxSteps := 1000000) (maxDischargeDepth := 8) only [aq, aa, implies_true, simprocAttr] at hX
   generalize hC : run U aS _ _ = C at hX
   obtain ⟨m4, rfl, h4, k4⟩ := od ht Xc h3 hC
   clear hC;have o4 := (Gr.want ht Xc.p (s := z)).ok Xc
   simp +contextual -implicitDefEqProofs (maxSteps := 1000000) (maxDischargeDepth := 8) only [aq, aa, implies_true, simprocAttr] at hX
   generalize hC : run U dH _ _ = C at hX
   obtain ⟨m5, rfl, h5, k5⟩ := Bd ht o4 h4 hC
   clear hC;have hfi := J1 (b := b) (tg := tg) (l := l) (st := (s2.want l z).close) (P := P)
   have oY : (s2.want l z).close.fe = (s2.want l z).fe := rfl
   have kk := (((k1.trans k2).trans k3).trans k4).trans k5
   have k6 := aU (k := 0) h5
   by_cases jh : (s2.want l z).fe = 0
   ·simp +contextual -implicitDefEqProofs (maxSteps := 1000000) (maxDischargeDepth := 8) only [hfi, h5, oY, jh, gl, dk, ak, aq, aa, implies_true, simprocAttr] at hX
    subst hX;simp only [jh, if_true];exact ⟨_, rfl, ak h5, kk.trans k6⟩
   ·simp +contextual -implicitDefEqProofs (maxSteps := 1000000) (maxDischargeDepth := 8) only [hfi, h5, oY, jh, fG, dk, ak, aq, aa, implies_true, simprocAttr] at hX
    subst hX;simp only [jh, if_false];exact ⟨_, rfl, ak h5, kk.trans k6⟩
  ·rw [if_neg hf] at bO
   rw [eU hf] at hX;simp only [bj, eQ] at bO;obtain ⟨rfl, rfl⟩ := bO
   simp +contextual -implicitDefEqProofs (maxSteps := 1000000) (maxDischargeDepth := 8) only [aq, aa, implies_true, simprocAttr] at hX
   subst hX;exact ⟨_, rfl, h2, k1.trans k2⟩
 ·have hw : st.want l a = st.fail 8 (st.now l).pos := by unfold RS.want; rw [if_neg ha]
  rw [hw] at h1;simp only [jz, if_neg ha, bj, eQ] at bO;obtain ⟨rfl, rfl⟩ := bO
  rw [eU ha] at hX;simp +contextual -implicitDefEqProofs (maxSteps := 1000000) (maxDischargeDepth := 8) only [aq, aa, implies_true, simprocAttr] at hX
  subst hX;exact ⟨_, rfl, h1, k1⟩
end
end
section
section
variable {l : List Tok} {tg : Nat} (ht : bT l) {k : Nat}
include ht
theorem LZ (JK : rm l tg eC [] k .front) (LN : rm l tg jv [] k .atom) (ih3 : ∀ left, rm l tg kG [.int .i64 left] k (.mW left)) : rm l tg eC [] (k + 1) .front := by
 intro st m b P s1 r X o hk bO h hX
 rw [bZ (by simp [dM])] at hX
 have hT := jR (b := b) (tg := tg) (P := P) ht o
 have bg := h.lt
 simp +contextual -implicitDefEqProofs (maxSteps := 1000000) (maxDischargeDepth := 8) only [dM, hT, h, dk, ak, aq, aa, implies_true, simprocAttr] at hX
 have h0 := h.box 19 [.cells [.int .i64 ((st.now l).kind : Int), .str (st.now l).text, .int .i64 ((st.now l).n : Int), .int .i64 ((st.now l).pos : Int)] 4 ap false]
 have k0 := Vi h 19 [.cells [.int .i64 ((st.now l).kind : Int), .str (st.now l).text, .int .i64 ((st.now l).n : Int), .int .i64 ((st.now l).pos : Int)] 4 ap false]
 have p0 : Pr P m.next (nb m.next (19 + 1)) (nb m.next 19) := og (by decide)
 have b0 : (ext (bump m 19) [.cells [.int .i64 ((st.now l).kind : Int), .str (st.now l).text, .int .i64 ((st.now l).n : Int), .int .i64 ((st.now l).pos : Int)] 4 ap false]).get (nb m.next 19) = .cells [.int .i64 ((st.now l).kind : Int), .str (st.now l).text, .int .i64 ((st.now l).n : Int), .int .i64 ((st.now l).pos : Int)] 4 ap false := by
  rw [<- Nat.add_zero 19, <- dE];exact (aC (m := bump m 19) (i := 0) rfl (by simp)).trans rfl
 generalize hC : run U aX _ _ = C at hX
 obtain ⟨m1, rfl, h1, k1⟩ := pg ht o h0 hC
 clear hC;have b1 := (k1.k _ p0).trans b0
 have n1 : (ext (bump m 19) [fM.dead]).next <= m1.next := by have := k1.n; rw [ax] at this ⊢; exact this
 by_cases ha : st.is l [45]
 ·skip
  have hn := is_lt ht o.p ha
  have hw : st.skip l [45] = st.next := by unfold RS.skip; rw [if_pos ha]
  rw [hw] at h1;have on : eJ l st.next := (Gr.next hn).ok o
  rw [eA ha] at hX;simp +contextual -implicitDefEqProofs (maxSteps := 1000000) (maxDischargeDepth := 8) only [b1, aq, aa, implies_true, simprocAttr] at hX
  generalize hC : run U eM _ _ = C at hX
  obtain ⟨m2, rfl, h2, k2⟩ := Jg ht on h1 hC
  clear hC;have b2 := (k2.k _ p0).trans b1
  have go := Gr.open hn (p := ((st.now l).pos : Int))
  have oo := go.ok o
  obtain ⟨o1, o2, o3⟩ := lM (st := st.next) (p := ((st.now l).pos : Int))
  simp only [jz, if_pos ha] at bO;by_cases hf : (st.next.open (st.now l).pos).fe = 0
  ·rw [if_pos hf] at bO
   rw [eA hf] at hX;have nS : 8 * (l.length - (st.next.open (st.now l).pos).pos) + gU.front.bn < k := by rw [o1]; simp only [gU.bn, RS.next] at *; omega
   obtain ⟨s2, r2, e, g, ar, _⟩ := go_ok ht k .front _ go.pl nS trivial
   obtain ⟨x, rfl⟩ := jV ar
   simp only [e, Option.bind_some, bj, eQ] at bO;obtain ⟨rfl, rfl⟩ := bO
   simp +contextual -implicitDefEqProofs (maxSteps := 1000000) (maxDischargeDepth := 8) only [aq, aa, implies_true, simprocAttr] at hX
   generalize hC : run U eC _ _ = C at hX
   obtain ⟨m3, rfl, h3, k3⟩ := JK _ _ _ _ _ _ _ oo nS e h2 hC
   clear hC;have b3 := (k3.k _ p0).trans b2
   have U9 := g.ok oo
   simp +contextual -implicitDefEqProofs (maxSteps := 1000000) (maxDischargeDepth := 8) only [aq, aa, implies_true, simprocAttr] at hX
   generalize hC : run U dH _ _ = C at hX
   obtain ⟨m4, rfl, h4, k4⟩ := Bd ht U9 h3 hC
   clear hC;have b4 := (k4.k _ p0).trans b3
   have o4 : eJ l s2.close := ((go.trans g).close (by have := g.d0; rw [o2] at this; simp only [RS.next] at this; exact this)).ok o
   have l4 : nb m.next 19 < m4.next := mr (show nb m.next 19 < (ext (bump m 19) [fM.dead]).next by rw [ax, br, dE]; unfold nb; simp) (pU n1 (pU k2.n (pU k3.n k4.n)))
   simp +contextual -implicitDefEqProofs (maxSteps := 1000000) (maxDischargeDepth := 8) only [b4, l4, aq, aa, implies_true, simprocAttr] at hX
   generalize hC : run U aD _ _ = C at hX
   obtain ⟨m5, rfl, h5, k5⟩ := pP ht o4 (h4.It _) (kids := [x]) (by simp) (CB (by rfl)) (fun c hc => by rw [cu hc]; exact og (by simp)) (fun c hc => ⟨.inl hc, gx.of (by have := h4.mB hc; unfold nb; omega)⟩) (by simp) hC
   clear hC;simp +contextual -implicitDefEqProofs (maxSteps := 1000000) (maxDischargeDepth := 8) only [aq, aa, implies_true, simprocAttr] at hX
   subst hX;refine ⟨_, rfl, (h5.bQ fun c hc => .inl hc), ?_⟩
   exact (k0.trans (((((k1.trans k2).trans k3).trans k4).trans (lZ h4 _)).bQ fun c hc => .inl hc)).trans (k5.bQ fun c hc => .inl hc)
  ·rw [if_neg hf] at bO
   rw [eU hf] at hX;simp only [bj, eQ] at bO;obtain ⟨rfl, rfl⟩ := bO
   simp +contextual -implicitDefEqProofs (maxSteps := 1000000) (maxDischargeDepth := 8) only [aq, aa, implies_true, simprocAttr] at hX
   subst hX;exact ⟨_, rfl, h2.bQ fun c hc => .inl hc, k0.trans ((k1.trans k2).bQ fun c hc => .inl hc)⟩
 ·have hw : st.skip l [45] = st := by unfold RS.skip; rw [if_neg ha]
  rw [hw] at h1;rw [eU ha] at hX;simp +contextual -implicitDefEqProofs (maxSteps := 1000000) (maxDischargeDepth := 8) only [aq, aa, implies_true, simprocAttr] at hX
  have Re := k1
  have TB := ha
  clear ha;generalize hC : run U aX _ _ = C at hX
  obtain ⟨fW, rfl, h1, k1⟩ := pg ht o h1 hC
  clear hC;have b1 := (k1.k _ p0).trans b1
  have k1 := Re.trans k1
  have n1 : (ext (bump m 19) [fM.dead]).next <= fW.next := by have := k1.n; rw [ax] at this ⊢; exact this
  by_cases ha : st.is l [33]
  ·skip
   have hn := is_lt ht o.p ha
   have hw : st.skip l [33] = st.next := by unfold RS.skip; rw [if_pos ha]
   rw [hw] at h1;have on : eJ l st.next := (Gr.next hn).ok o
   rw [eA ha] at hX;simp +contextual -implicitDefEqProofs (maxSteps := 1000000) (maxDischargeDepth := 8) only [b1, aq, aa, implies_true, simprocAttr] at hX
   generalize hC : run U eM _ _ = C at hX
   obtain ⟨m2, rfl, h2, k2⟩ := Jg ht on h1 hC
   clear hC;have b2 := (k2.k _ p0).trans b1
   have go := Gr.open hn (p := ((st.now l).pos : Int))
   have oo := go.ok o
   obtain ⟨o1, o2, o3⟩ := lM (st := st.next) (p := ((st.now l).pos : Int))
   simp only [jz, if_neg TB, if_pos ha] at bO;by_cases hf : (st.next.open (st.now l).pos).fe = 0
   ·rw [if_pos hf] at bO
    rw [eA hf] at hX;have nS : 8 * (l.length - (st.next.open (st.now l).pos).pos) + gU.front.bn < k := by rw [o1]; simp only [gU.bn, RS.next] at *; omega
    obtain ⟨s2, r2, e, g, ar, _⟩ := go_ok ht k .front _ go.pl nS trivial
    obtain ⟨x, rfl⟩ := jV ar
    simp only [e, Option.bind_some, bj, eQ] at bO;obtain ⟨rfl, rfl⟩ := bO
    simp +contextual -implicitDefEqProofs (maxSteps := 1000000) (maxDischargeDepth := 8) only [aq, aa, implies_true, simprocAttr] at hX
    generalize hC : run U eC _ _ = C at hX
    obtain ⟨m3, rfl, h3, k3⟩ := JK _ _ _ _ _ _ _ oo nS e h2 hC
    clear hC;have b3 := (k3.k _ p0).trans b2
    have U9 := g.ok oo
    simp +contextual -implicitDefEqProofs (maxSteps := 1000000) (maxDischargeDepth := 8) only [aq, aa, implies_true, simprocAttr] at hX
    generalize hC : run U dH _ _ = C at hX
    obtain ⟨m4, rfl, h4, k4⟩ := Bd ht U9 h3 hC
    clear hC;have b4 := (k4.k _ p0).trans b3
    have o4 : eJ l s2.close := ((go.trans g).close (by have := g.d0; rw [o2] at this; simp only [RS.next] at this; exact this)).ok o
    have l4 : nb m.next 19 < m4.next := mr (show nb m.next 19 < (ext (bump m 19) [fM.dead]).next by rw [ax, br, dE]; unfold nb; simp) (pU n1 (pU k2.n (pU k3.n k4.n)))
    simp +contextual -implicitDefEqProofs (maxSteps := 1000000) (maxDischargeDepth := 8) only [b4, l4, aq, aa, implies_true, simprocAttr] at hX
    generalize hC : run U aD _ _ = C at hX
    obtain ⟨m5, rfl, h5, k5⟩ := pP ht o4 (h4.It _) (kids := [x]) (by simp) (CB (by rfl)) (fun c hc => by rw [cu hc]; exact og (by simp)) (fun c hc => ⟨.inl hc, gx.of (by have := h4.mB hc; unfold nb; omega)⟩) (by simp) hC
    clear hC;simp +contextual -implicitDefEqProofs (maxSteps := 1000000) (maxDischargeDepth := 8) only [aq, aa, implies_true, simprocAttr] at hX
    subst hX;refine ⟨_, rfl, (h5.bQ fun c hc => .inl hc), ?_⟩
    exact (k0.trans (((((k1.trans k2).trans k3).trans k4).trans (lZ h4 _)).bQ fun c hc => .inl hc)).trans (k5.bQ fun c hc => .inl hc)
   ·rw [if_neg hf] at bO
    rw [eU hf] at hX;simp only [bj, eQ] at bO;obtain ⟨rfl, rfl⟩ := bO
    simp +contextual -implicitDefEqProofs (maxSteps := 1000000) (maxDischargeDepth := 8) only [aq, aa, implies_true, simprocAttr] at hX
    subst hX;exact ⟨_, rfl, h2.bQ fun c hc => .inl hc, k0.trans ((k1.trans k2).bQ fun c hc => .inl hc)⟩
  ·have hw : st.skip l [33] = st := by unfold RS.skip; rw [if_neg ha]
   rw [hw] at h1;rw [eU ha] at hX;simp +contextual -implicitDefEqProofs (maxSteps := 1000000) (maxDischargeDepth := 8) only [aq, aa, implies_true, simprocAttr] at hX
   simp only [jz, if_neg TB, if_neg ha] at bO;have nS : 8 * (l.length - st.pos) + gU.atom.bn < k := by simp only [gU.bn] at *; omega
   obtain ⟨s2, r2, e, g, ar, _⟩ := go_ok ht k .atom _ o.p nS trivial
   obtain ⟨x, rfl⟩ := jV ar
   simp only [e, Option.bind_some, List.headD_cons] at bO;generalize hC : run U jv _ _ = C at hX
   obtain ⟨m2, rfl, h2, k2⟩ := LN _ _ _ _ _ _ _ o nS e h1 hC
   clear hC;simp +contextual -implicitDefEqProofs (maxSteps := 1000000) (maxDischargeDepth := 8) only [List.headD_cons, aq, aa, implies_true, simprocAttr] at hX
   generalize hC : run U kG _ _ = C at hX
   obtain ⟨m3, rfl, h3, k3⟩ := ih3 x _ _ _ _ _ _ _ (g.ok o) (by have := g.p; simp only [gU.bn] at *; omega) bO h2 hC
   clear hC;simp +contextual -implicitDefEqProofs (maxSteps := 1000000) (maxDischargeDepth := 8) only [aq, aa, implies_true, simprocAttr] at hX
   subst hX;exact ⟨_, rfl, h3.bQ fun c hc => .inl hc, k0.trans (((k1.trans k2).trans k3).bQ fun c hc => .inl hc)⟩
end
end
end Go.Proofs.YtdiccmapankckaaDoor.Ev
