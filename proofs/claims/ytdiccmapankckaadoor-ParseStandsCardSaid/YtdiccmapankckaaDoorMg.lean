/- EvLoop, EvIx, EvA0, EvU, PLx, WNm, WTree1, WTree2, WTree3, PExpr3, PExpr4, PExpr5. -/
import Derived.Test.YtdiccmapankckaaDoorMf
set_option linter.unusedSimpArgs false
set_option linter.unusedVariables false
set_option linter.unusedSectionVars false
set_option linter.defProp false
set_option maxRecDepth 20000
set_option maxHeartbeats 8000000
namespace Go.Proofs.YtdiccmapankckaaDoor.Ev
open Go
section
def Fu {σ : Type} (I : σ -> Fr -> Mem -> Prop) (lt : σ -> Prop) (Q : Out -> Prop) (o : Option Out) : Prop := match o with
 | some (.norm fr m) => ∃ s, lt s /\ I s fr m
 | some o => Q o
 | none => False
theorem fC {T : Nat -> Option iM} {c : aE} {σ : Type} (I : σ -> Fr -> Mem -> Prop) (μ : σ -> Nat) (Q : Out -> Prop) (h : ∀ s fr m, I s fr m -> Fu I (fun s' => μ s' < μ s) Q (exec T c fr m)) : ∀ s fr m, I s fr m -> ∃ o, exec T (.loop c) fr m = some o /\ Q o := by
 intro s
 generalize hn : μ s = n
 induction n using Nat.strongRecOn generalizing s with
 | _ n ih =>
  intro fr m hI
  have hw := h s fr m hI
  rw [eS]
  cases he : exec T c fr m with
  | none => rw [he] at hw; exact hw.elim
  | some o =>
   rw [he] at hw
   cases o with
   | norm fY m1 => obtain ⟨s1, h1, h2⟩ := hw; exact ih (μ s1) (by omega) s1 rfl fY m1 h2
   | exit id fY m1 => exact ⟨_, rfl, hw⟩
   | ret fY m1 => exact ⟨_, rfl, hw⟩
   | gO v fY m1 => exact ⟨_, rfl, hw⟩
section
variable {σ : Type} {I : σ -> Fr -> Mem -> Prop} {lt : σ -> Prop} {Q : Out -> Prop}
theorem mC {p : Prop} {a b : Option Out} (h1 : p -> Fu I lt Q a) (h2 : ¬ p -> Fu I lt Q b) : Fu I lt Q (iF p a b) := by
 by_cases h : p
 ·rw [AX h]; exact h1 h
 ·rw [AY h]; exact h2 h
theorem dq {fr : Fr} {m : Mem} (s : σ) (h : lt s) (hI : I s fr m) : Fu I lt Q (some (.norm fr m)) := ⟨s, h, hI⟩
theorem dr {id : Nat} {fr : Fr} {m : Mem} (h : Q (.exit id fr m)) : Fu I lt Q (some (.exit id fr m)) := h
theorem il {fr : Fr} {m : Mem} (h : Q (.ret fr m)) : Fu I lt Q (some (.ret fr m)) := h
end
theorem ft {T : Nat -> Option iM} {c : aE} {fr : Fr} {m : Mem} {X : Option Out} (hX : exec T (.loop c) fr m = X) {Q : Out -> Prop} (h : ∃ o, exec T (.loop c) fr m = some o /\ Q o) : ∃ o, X = some o /\ Q o := by
 rw [hX] at h; exact h
def Yt (e esz len : Nat) (o : Option (List EV)) (m : Mem) : Option R1 := match o with
 | some cs => some (.val (.slice (nb m.next 0) 0 len (some len)) (ext m [.cells cs esz e false]))
 | none => none
@[congr] theorem WT {e esz len : Nat} {o o' : Option (List EV)} {m : Mem} (h : o = o') : Yt e esz len o m = Yt e esz len o' m := by rw [h]
theorem fA {e esz len : Nat} {cs : List EV} {m : Mem} : Yt e esz len (some cs) m = some (.val (.slice (nb m.next 0) 0 len (some len)) (ext m [.cells cs esz e false])) := rfl
theorem b8 {ρ : aZ -> EV} {m : Mem} {e esz len : Nat} {zero : List EV} {parts : List (Nat × aZ)} : aF ρ (.bB e esz len zero parts) m = Yt e esz len (fu (eE len zero) (parts.map fun p => (p.1 * esz, esz, ρ p.2))) m := by
 simp only [aF, Yt]
 cases fu (eE len zero) (parts.map fun p => (p.1 * esz, esz, ρ p.2)) <;> rfl
def UM (call : Call) (n : Nat) (F : az) (eT : List EV) : Option EV := match dG call n F eT aQ with
 | some (.ret v m) => kQ m v
 | _ => none
theorem Bo {T : Nat -> Option iM} {K : Nat -> Nat} {f : Nat} {F : az} [h : ct T f F] {eT : List EV} {V : EV} (n : Nat) (hb : ∀ call : Call, UM call n F eT = some V) : bA T K f eT = some V := by
 rw [Er h.has];have hb := hb (aW (UT T K) n)
 unfold UM at hb
 cases he : dG (aW (UT T K) n) n F eT aQ with
 | none => rw [he] at hb; cases hb
 | some fin =>
  rw [he] at hb
  cases fin with
  | gO v m => cases hb
  | ret v m =>
   refine Ao he ?_
   have BX : oZ (cG 7 m) m v = some V := hb
   show jA (cG 7 m) m [v] = some [V]
   simp only [jA, BX]
theorem ja.oZ {m : Mem} {v : EV} {els : List (List EV)} {n e lo : Nat} (h : ja m v els.flatten n e lo) (hn : els.length = n) (hl : ∀ el ∈ els, el.length = e) (hp : ∀ el ∈ els, jr el = true) : ∃ nl, kQ m v = some (row nl 0 e els) := by
 rcases h.is with ⟨rfl, rfl, h3⟩ | ⟨b, cap, t, rfl, h1, h2, h3, h4⟩
 ·have : els = [] := List.eq_nil_of_length_eq_zero hn
  subst this;exact ⟨true, rfl⟩
 ·subst hn
  refine ⟨false, ?_⟩
  rw [mV h3 hl hp (by rcases h4 with rfl | rfl <;> simp [Al])]
  simp [row]
theorem ja.Dn {m : Mem} {v : EV} {els : List (List EV)} {n e lo : Nat} (h : ja m v els.flatten n e lo) (hn : els.length = n) (h0 : 0 < n) (hl : ∀ el ∈ els, el.length = e) (hp : ∀ el ∈ els, jr el = true) : kQ m v = some (.fz 0 e els) := by
 rcases h.is with ⟨rfl, rfl, h3⟩ | ⟨b, cap, t, rfl, h1, h2, h3, h4⟩
 ·omega
 ·subst hn
  exact mV h3 hl hp (by rcases h4 with rfl | rfl <;> simp [Al])
theorem Vp {p q r : Prop} : Sy p (some (bo q)) (some (bo r)) = some (bo ((p /\ q) \/ (¬ p /\ r))) := by
 by_cases h : p
 ·rw [wH h]; exact congrArg some (Ap ⟨fun x => .inl ⟨h, x⟩, fun x => x.elim (fun y => y.2) (fun y => absurd h y.1)⟩)
 ·rw [wI h]; exact congrArg some (Ap ⟨fun x => .inr ⟨h, x⟩, fun x => x.elim (fun y => absurd y.1 h) (fun y => y.2)⟩)
theorem Vo {p r : Prop} : Sy p (some (.bool false)) (some (bo r)) = some (bo (¬ p /\ r)) := by
 by_cases h : p
 ·rw [wH h]; exact congrArg some (sa fun x => x.1 h)
 ·rw [wI h]; exact congrArg some (Ap ⟨fun x => ⟨h, x⟩, fun x => x.2⟩)
theorem eZ {p q : Prop} (h : p ↔ q) : some (bo p) = some (bo q) := congrArg some (Ap h)
theorem aI {a b : Prop} (x : a) (y : b) : a /\ b := And.intro x y
def Hd := aI @mb <| aI @nK <| aI @uR <| aI @uS <| aI @pj <| aI @zR <| aI @eval_const <| aI @wx <| aI @wy <| aI @y7 <| aI @sF <| aI @vM <| aI @sH <| aI @vK <| aI @sI <| aI @tl <| aI @wE <| aI @tp <| aI @Hp <| aI @Hq <| aI @yS <| aI @wg <| aI @yT <| aI (@eq_self.{1}) <| aI @Cy <| aI @Cw <| aI @CE <| aI @CD <| aI @CF <| aI @DP <| aI @DG <| aI @DJ <| aI @DI <| aI @DH <| aI @DO <| aI @Iv <| aI @DF <| aI @uf <| aI @DK <| aI @DL <| aI @DM <| aI @DN <| aI @qY <| aI @qW <| aI @qX <| aI @qV <| aI @eq_int <| aI @Hj <| aI @Im <| (@vj)
def Hc := aI @nL <| aI @sc <| aI @vk <| aI @sd <| aI @pB <| aI @tH <| aI @uU <| aI @rI <| aI @mM <| aI (@Option.map_some.{0,0}) <| aI (@Option.map_none.{0,0}) <| aI (@List.map_cons.{0,0}) <| aI (@List.map_nil.{0,0}) <| aI @xi <| aI @nt <| aI @gl <| aI @fG <| aI @CX <| aI @zB <| aI @NZ <| aI @vJ <| aI @vI <| aI @zE <| aI @C4 <| aI @C5 <| aI @CY <| aI @CZ <| aI @zG <| aI @Dk <| aI @Dl <| aI @De <| aI @Df <| aI @wv <| aI @qn <| aI @oU <| aI (@List.nil_append.{0}) <| aI (@List.append_nil.{0}) <| aI (@List.cons_append.{0}) <| aI @tN <| aI @yW <| aI @CA <| aI @wj <| aI @yV <| aI @Hz <| aI @HA <| aI @vD <| aI @Ia <| aI @H9 <| aI @yA <| (@zk)
def Hb := aI @yz <| aI @yB <| aI @Cz <| aI @not_true_eq_false <| aI @not_false_eq_true <| aI @and_true <| aI @true_and <| aI @and_false <| aI @false_and <| aI @or_true <| aI @true_or <| aI @or_false <| aI @false_or <| aI @Classical.not_not <| aI @Bool.false_bne <| aI @Bool.true_bne <| aI @Bool.false_xor <| aI @Bool.true_xor <| aI @zT <| aI @tR <| aI @wQ <| aI @tK <| aI @tO <| aI @zY <| aI @Du <| aI @Ds <| aI @wT <| aI @tP <| aI @wP <| aI @oI <| aI @tL <| aI @tM <| aI @tQ <| aI @zW <| aI @nn <| aI @qJ <| aI @qK <| aI @qF <| aI @qE <| aI @qM <| aI @qH <| aI @oH <| aI @oJ <| aI @qG <| aI @qI <| aI @zX <| aI @zV <| aI @zU <| aI @qN <| (@wS)
def Ha := aI @TW <| aI @TX <| aI @Np <| aI @Nq <| aI @Nr <| aI @Ns <| aI @C0 <| aI @C1 <| aI @C2 <| aI @C3 <| aI @Ny <| aI @Nz <| aI @NA <| aI @NB <| aI @Dg <| aI @Dh <| aI @Di <| aI @Dj <| aI @s9 <| aI @ta <| aI @wh <| aI @wi <| aI @Dz <| aI @DA <| aI @Dw <| aI @Dy <| aI @NI <| aI @NT <| aI @NJ <| aI @NR <| aI @yo <| aI @yp <| aI @Ek <| aI @El <| aI @vd <| aI @decide_true <| aI @decide_false <| aI @Bool.not_true <| aI @Bool.not_false <| aI (@cond_true.{1}) <| aI (@cond_false.{1}) <| aI @Int.cast_ofNat_Int <| aI @HF <| aI @Dr <| aI @dE <| aI @ax <| aI @cq <| aI @bM <| aI @aB <| (@aG)
def G9 := aI @aC <| aI @qB <| aI @wB <| aI @wG <| aI @wo <| aI @wm <| aI @sJ <| aI @yG <| aI @ym <| aI @vB <| aI @pi <| aI @qh <| aI @nz <| aI @xf <| aI @ud <| aI @Ak <| aI @w9 <| aI @oQ <| aI @xd <| aI @mh <| aI @qS <| aI @oR <| aI @xe <| aI @nq <| aI @ub <| aI @ml <| aI @qT <| aI @xg <| aI @rY <| aI @rZ <| aI @pA <| aI @wU <| aI @xh <| aI @qO <| aI @qD <| aI @gF <| aI @br <| aI @yN <| aI @wD <| aI @MX <| aI @HH <| aI @MZ <| aI @Ib <| aI @Dv <| aI @zZ <| aI @wW <| aI @xk <| aI @uh <| aI @Iz <| (@IA)
def G8 := aI @Ar <| aI @yR <| aI @yU <| aI (@List.length_cons.{0}) <| aI (@List.length_nil.{0}) <| aI @Nat.zero_add <| aI @Nat.add_zero <| aI (@List.take_succ_cons.{0}) <| aI (@List.take_zero.{0}) <| aI (@List.take_nil.{0}) <| aI (@List.drop_succ_cons.{0}) <| aI (@List.drop_zero.{0}) <| aI (@List.drop_nil.{0}) <| aI (@List.getElem?_cons_zero.{0}) <| aI (@List.getElem?_cons_succ.{0}) <| aI (@List.getElem?_nil.{0}) <| aI (@Option.getD_some.{0}) <| aI (@List.set_cons_zero.{0}) <| aI (@List.set_cons_succ.{0}) <| aI @eX <| aI (@ne_eq.{1}) <| aI @Bool.or_true <| aI @Bool.or_false <| aI @Bool.true_or <| aI @Bool.false_or <| aI @Bool.and_true <| aI @Bool.true_and <| aI @Bool.and_false <| aI @Bool.false_and <| aI @NM <| aI @NO <| aI @NP <| aI @NK <| aI @NN <| aI @Dx <| aI @oK <| aI @oL <| (@vv)
def zz6 := aI @Ch <| aI @vZ <| aI @Cn <| aI @vY <| aI @sT <| aI @vQ <| aI @vT <| aI @Co <| aI @Ho <| aI @Hn <| aI @vV <| aI @yJ <| aI @vU <| aI @qb <| aI @vR <| aI @yH <| aI @vS <| aI @vX <| aI @Cl <| aI @vW <| aI @oz <| aI @sP <| aI @sQ <| aI @sL <| aI @sK <| aI @sR <| aI @sN <| aI @qa <| aI @qc <| aI @Ck <| aI @sM <| aI @sO <| aI @Cm <| aI @Cj <| aI @Ci <| aI @sU <| aI @yK <| aI @yI <| aI @sS <| aI @qg <| aI @oA <| aI @qe <| aI @tG <| aI @z5 <| aI @sG <| aI @jZ <| aI @A9 <| aI @A8 <| aI @vL <| (@DE)
def zz7 := aI @Ah <| aI @yL <| aI @v8 <| aI @yX <| aI @wq <| aI @vP <| aI @nv <| aI @CI <| aI @uX <| aI @CJ <| aI @uY <| aI @sg <| aI @wY <| aI @z0 <| aI @DB <| aI @si <| aI @wZ <| aI @yQ <| aI @DD <| aI @DC <| aI @Ab <| aI @Aa <| aI @z9 <| aI @z8 <| aI @tT <| aI @tS <| aI @Dc <| aI @Dd <| aI @Nt <| aI @Nu <| aI @Nw <| aI @Nx <| aI @zF <| aI @C6 <| aI @C7 <| aI @C8 <| aI @C9 <| aI @Da <| aI @Db <| aI @vH <| aI @Cd <| aI @yx <| aI @yu <| aI @pX <| aI @yv <| aI @na <| aI @sC <| aI @pY <| aI @yw <| (@ou)
def zz8 := aI @nc <| aI @sA <| aI @yy <| aI @sB <| aI @sE <| aI @vG <| aI @vF <| aI @sy <| aI @CS <| aI @zn <| aI @CH <| aI @y5 <| aI @Nat.beq_refl <| aI @wR <| aI @zj <| aI @tj <| aI @CN <| aI @zi <| aI @wu <| aI @qL <| aI @oF <| aI @rR <| aI @tw <| aI @zl <| aI @wC <| aI @rA <| aI @sV <| aI @Aj <| aI @xc <| aI @uc <| aI @NS <| aI @NQ <| aI @NL <| aI @tc <| aI @tV <| aI @zM <| aI @wN <| aI @tD <| aI @wM <| aI @Dp <| aI @zJ <| aI @zH <| aI @nj <| aI @qC <| aI @nk <| aI @zK <| aI @zI <| aI @zL <| aI @tE <| (@tX)
def zz9 := aI @qP <| aI @oN <| aI @w7 <| aI @tY <| aI @qQ <| aI @w8 <| aI @tW <| aI @kV <| aI @tZ <| aI @oO <| aI @p7 <| aI @ow <| aI @Cf <| aI @yD <| aI @yE <| aI @vO <| aI @Cg <| aI @yC <| aI @nf <| aI @yF <| aI @yZ <| aI @yY <| aI @ue <| aI @Ht <| aI @Hs <| aI @zN <| aI @H7 <| aI @Ax <| aI @xm <| aI @DR <| aI @Aw <| aI @Ay <| aI @uk <| aI @wO <| aI @tF <| aI @Bool.and_self <| aI (@List.getElem?_map.{0,0}) <| aI (@List.length_map.{0,0}) <| aI @pD <| aI @v9 <| aI @sX <| aI @sY <| aI @wa <| aI @rC <| aI @yM <| (@List.isEmpty_nil.{0})
def ao := aI @vd <| aI @Ek <| aI @El <| aI @pj <| aI @mb <| aI @nK <| aI @uR <| (@uS)
def aq := aI Hd <| aI Hc <| aI Hb <| aI Ha <| aI G9 <| aI G8 <| aI zz6 <| aI zz7 <| aI zz8 <| (zz9)
end
section
def Ca : List EV -> Option EV
 | [.str s, .str [c]] => some (.int .i64 (Go.Lib.indexByte s c))
 | _ => none
instance : ct T dF cB := ⟨rfl⟩
instance : ct T eY aM := ⟨rfl⟩
theorem Tk {m : Mem} {s : List UInt8} {c : UInt8} : run T eY [.str s, .int .u8 (c.toNat : Int)] m = some (.ret (.int .i64 (Go.Lib.indexByte s c)) m) := by
 rw [MH (by simp [aM])]
 have h : ∀ m : Mem, run T gB [.str s, .int .u8 (c.toNat : Int)] m = some (.ret (.int .i64 (Go.Lib.indexByte s c)) m) := fun m => by
  rw [Hu (g := gy) rfl];simp [gy]
 simp +contextual -implicitDefEqProofs (maxSteps := 1000000) (maxDischargeDepth := 8) only [aM, h, aa, mb, nK, uR, uS, pj, zR, eval_const, wx, wy, y7, sF, vM, sH, vK, sI, tl, wE, tp, Hp, Hq, yS, wg, yT, eq_self, Cy, Cw, CE, CD, CF, DP, DG, DJ, DI, DH, DO, Iv, DF, uf, DK, DL, DM, DN, qY, qW, qX, qV, eq_int, Hj, Im, vj, nL, sc, vk, sd, pB, tH, uU, rI, mM, Option.map_some, Option.map_none, List.map_cons, List.map_nil, xi, nt, gl, fG, CX, zB, NZ, vJ, vI, zE, C4, C5, CY, CZ, zG, Dk, Dl, De, Df, wv, qn, oU, List.nil_append, List.append_nil, List.cons_append, tN, yW, CA, wj, yV, Hz, HA, vD, Ia, H9, yA, zk, yz, yB, Cz, not_true_eq_false, not_false_eq_true, and_true, true_and, and_false, false_and, or_true, true_or, or_false, false_or, Classical.not_not, Bool.false_bne, Bool.true_bne, Bool.false_xor, Bool.true_xor, zT, tR, wQ, tK, tO, zY, Du, Ds, wT, tP, wP, oI, tL, tM, tQ, zW, nn, qJ, qK, qF, qE, qM, qH, oH, oJ, qG, qI, zX, zV, zU, qN, wS, TW, TX, Np, Nq, Nr, Ns, C0, C1, C2, C3, Ny, Nz, NA, NB, Dg, Dh, Di, Dj, s9, ta, wh, wi, Dz, DA, Dw, Dy, NI, NT, NJ, NR, yo, yp, Ek, El, vd, decide_true, decide_false, Bool.not_true, Bool.not_false, cond_true, cond_false, implies_true, Int.cast_ofNat_Int, HF, Dr, dE, ax, cq, bM, aB, aG, aC, qB, wB, wG, wo, wm, sJ, yG, ym, vB, pi, qh, nz, xf, ud, Ak, w9, oQ, xd, mh, qS, oR, xe, nq, ub, ml, qT, xg, rY, rZ, pA, wU, xh, qO, qD, gF, br, yN, wD, MX, HH, MZ, Ib, Dv, zZ, wW, xk, uh, Iz, IA, Ar, yR, yU, List.length_cons, List.length_nil, Nat.zero_add, Nat.add_zero, List.take_succ_cons, List.take_zero, List.take_nil, List.drop_succ_cons, List.drop_zero, List.drop_nil, List.getElem?_cons_zero, List.getElem?_cons_succ, List.getElem?_nil, Option.getD_some, List.set_cons_zero, List.set_cons_succ, eX, ne_eq, Bool.or_true, Bool.or_false, Bool.true_or, Bool.false_or, Bool.and_true, Bool.true_and, Bool.and_false, Bool.false_and, NM, NO, NP, NK, NN, Dx, oK, oL, vv, Ch, vZ, Cn, vY, sT, vQ, vT, Co, Ho, Hn, vV, yJ, vU, qb, vR, yH, vS, vX, Cl, vW, oz, sP, sQ, sL, sK, sR, sN, qa, qc, Ck, sM, sO, Cm, Cj, Ci, sU, yK, yI, sS, qg, oA, qe, tG, z5, sG, jZ, A9, A8, vL, DE, Ah, yL, v8, yX, wq, vP, nv, CI, uX, CJ, uY, sg, wY, z0, DB, si, wZ, yQ, DD, DC, Ab, Aa, z9, z8, tT, tS, Dc, Dd, Nt, Nu, Nw, Nx, zF, C6, C7, C8, C9, Da, Db, vH, Cd, yx, yu, pX, yv, na, sC, pY, yw, ou, nc, sA, yy, sB, sE, vG, vF, sy, CS, zn, CH, y5, Nat.beq_refl, wR, zj, tj, CN, zi, wu, qL, oF, rR, tw, zl, wC, rA, sV, Aj, xc, uc, NS, NQ, NL, tc, tV, zM, wN, tD, wM, Dp, zJ, zH, nj, qC, nk, zK, zI, zL, tE, tX, qP, oN, w7, tY, qQ, w8, tW, kV, tZ, oO, p7, ow, Cf, yD, yE, vO, Cg, yC, nf, yF, yZ, yY, ue, Ht, Hs, zN, H7, Ax, xm, DR, Aw, Ay, uk, wO, tF, Bool.and_self, List.getElem?_map, List.length_map, pD, v9, sX, sY, wa, rC, yM, Option.map_none, List.isEmpty_nil, simprocAttr]
theorem Tm {m : Mem} {s : List UInt8} {c : UInt8} : run T dF [.str s, .str [c]] m = some (.ret (.int .i64 (Go.Lib.indexByte s c)) m) := by
 rw [MH (by simp [cB])]
 generalize hL : exec T (aE.loop iE) = L
 have hi : idx 1 (.int .i64 0) = some 0 := rfl
 by_cases hs : [c] = s
 ·simp +contextual -implicitDefEqProofs (maxSteps := 1000000) (maxDischargeDepth := 8) only [cB, hs, hi, aa, mb, nK, uR, uS, pj, zR, eval_const, wx, wy, y7, sF, vM, sH, vK, sI, tl, wE, tp, Hp, Hq, yS, wg, yT, eq_self, Cy, Cw, CE, CD, CF, DP, DG, DJ, DI, DH, DO, Iv, DF, uf, DK, DL, DM, DN, qY, qW, qX, qV, eq_int, Hj, Im, vj, nL, sc, vk, sd, pB, tH, uU, rI, mM, Option.map_some, Option.map_none, List.map_cons, List.map_nil, xi, nt, gl, fG, CX, zB, NZ, vJ, vI, zE, C4, C5, CY, CZ, zG, Dk, Dl, De, Df, wv, qn, oU, List.nil_append, List.append_nil, List.cons_append, tN, yW, CA, wj, yV, Hz, HA, vD, Ia, H9, yA, zk, yz, yB, Cz, not_true_eq_false, not_false_eq_true, and_true, true_and, and_false, false_and, or_true, true_or, or_false, false_or, Classical.not_not, Bool.false_bne, Bool.true_bne, Bool.false_xor, Bool.true_xor, zT, tR, wQ, tK, tO, zY, Du, Ds, wT, tP, wP, oI, tL, tM, tQ, zW, nn, qJ, qK, qF, qE, qM, qH, oH, oJ, qG, qI, zX, zV, zU, qN, wS, TW, TX, Np, Nq, Nr, Ns, C0, C1, C2, C3, Ny, Nz, NA, NB, Dg, Dh, Di, Dj, s9, ta, wh, wi, Dz, DA, Dw, Dy, NI, NT, NJ, NR, yo, yp, Ek, El, vd, decide_true, decide_false, Bool.not_true, Bool.not_false, cond_true, cond_false, implies_true, Int.cast_ofNat_Int, HF, Dr, dE, ax, cq, bM, aB, aG, aC, qB, wB, wG, wo, wm, sJ, yG, ym, vB, pi, qh, nz, xf, ud, Ak, w9, oQ, xd, mh, qS, oR, xe, nq, ub, ml, qT, xg, rY, rZ, pA, wU, xh, qO, qD, gF, br, yN, wD, MX, HH, MZ, Ib, Dv, zZ, wW, xk, uh, Iz, IA, Ar, yR, yU, List.length_cons, List.length_nil, Nat.zero_add, Nat.add_zero, List.take_succ_cons, List.take_zero, List.take_nil, List.drop_succ_cons, List.drop_zero, List.drop_nil, List.getElem?_cons_zero, List.getElem?_cons_succ, List.getElem?_nil, Option.getD_some, List.set_cons_zero, List.set_cons_succ, eX, ne_eq, Bool.or_true, Bool.or_false, Bool.true_or, Bool.false_or, Bool.and_true, Bool.true_and, Bool.and_false, Bool.false_and, NM, NO, NP, NK, NN, Dx, oK, oL, vv, Ch, vZ, Cn, vY, sT, vQ, vT, Co, Ho, Hn, vV, yJ, vU, qb, vR, yH, vS, vX, Cl, vW, oz, sP, sQ, sL, sK, sR, sN, qa, qc, Ck, sM, sO, Cm, Cj, Ci, sU, yK, yI, sS, qg, oA, qe, tG, z5, sG, jZ, A9, A8, vL, DE, Ah, yL, v8, yX, wq, vP, nv, CI, uX, CJ, uY, sg, wY, z0, DB, si, wZ, yQ, DD, DC, Ab, Aa, z9, z8, tT, tS, Dc, Dd, Nt, Nu, Nw, Nx, zF, C6, C7, C8, C9, Da, Db, vH, Cd, yx, yu, pX, yv, na, sC, pY, yw, ou, nc, sA, yy, sB, sE, vG, vF, sy, CS, zn, CH, y5, Nat.beq_refl, wR, zj, tj, CN, zi, wu, qL, oF, rR, tw, zl, wC, rA, sV, Aj, xc, uc, NS, NQ, NL, tc, tV, zM, wN, tD, wM, Dp, zJ, zH, nj, qC, nk, zK, zI, zL, tE, tX, qP, oN, w7, tY, qQ, w8, tW, kV, tZ, oO, p7, ow, Cf, yD, yE, vO, Cg, yC, nf, yF, yZ, yY, ue, Ht, Hs, zN, H7, Ax, xm, DR, Aw, Ay, uk, wO, tF, Bool.and_self, List.getElem?_map, List.length_map, pD, v9, sX, sY, wa, rC, yM, Option.map_none, List.isEmpty_nil, simprocAttr]
  rw [<- hs];simp [Go.Lib.indexByte]
 ·simp +contextual -implicitDefEqProofs (maxSteps := 1000000) (maxDischargeDepth := 8) only [cB, hs, hi, Tk, aa, mb, nK, uR, uS, pj, zR, eval_const, wx, wy, y7, sF, vM, sH, vK, sI, tl, wE, tp, Hp, Hq, yS, wg, yT, eq_self, Cy, Cw, CE, CD, CF, DP, DG, DJ, DI, DH, DO, Iv, DF, uf, DK, DL, DM, DN, qY, qW, qX, qV, eq_int, Hj, Im, vj, nL, sc, vk, sd, pB, tH, uU, rI, mM, Option.map_some, Option.map_none, List.map_cons, List.map_nil, xi, nt, gl, fG, CX, zB, NZ, vJ, vI, zE, C4, C5, CY, CZ, zG, Dk, Dl, De, Df, wv, qn, oU, List.nil_append, List.append_nil, List.cons_append, tN, yW, CA, wj, yV, Hz, HA, vD, Ia, H9, yA, zk, yz, yB, Cz, not_true_eq_false, not_false_eq_true, and_true, true_and, and_false, false_and, or_true, true_or, or_false, false_or, Classical.not_not, Bool.false_bne, Bool.true_bne, Bool.false_xor, Bool.true_xor, zT, tR, wQ, tK, tO, zY, Du, Ds, wT, tP, wP, oI, tL, tM, tQ, zW, nn, qJ, qK, qF, qE, qM, qH, oH, oJ, qG, qI, zX, zV, zU, qN, wS, TW, TX, Np, Nq, Nr, Ns, C0, C1, C2, C3, Ny, Nz, NA, NB, Dg, Dh, Di, Dj, s9, ta, wh, wi, Dz, DA, Dw, Dy, NI, NT, NJ, NR, yo, yp, Ek, El, vd, decide_true, decide_false, Bool.not_true, Bool.not_false, cond_true, cond_false, implies_true, Int.cast_ofNat_Int, HF, Dr, dE, ax, cq, bM, aB, aG, aC, qB, wB, wG, wo, wm, sJ, yG, ym, vB, pi, qh, nz, xf, ud, Ak, w9, oQ, xd, mh, qS, oR, xe, nq, ub, ml, qT, xg, rY, rZ, pA, wU, xh, qO, qD, gF, br, yN, wD, MX, HH, MZ, Ib, Dv, zZ, wW, xk, uh, Iz, IA, Ar, yR, yU, List.length_cons, List.length_nil, Nat.zero_add, Nat.add_zero, List.take_succ_cons, List.take_zero, List.take_nil, List.drop_succ_cons, List.drop_zero, List.drop_nil, List.getElem?_cons_zero, List.getElem?_cons_succ, List.getElem?_nil, Option.getD_some, List.set_cons_zero, List.set_cons_succ, eX, ne_eq, Bool.or_true, Bool.or_false, Bool.true_or, Bool.false_or, Bool.and_true, Bool.true_and, Bool.and_false, Bool.false_and, NM, NO, NP, NK, NN, Dx, oK, oL, vv, Ch, vZ, Cn, vY, sT, vQ, vT, Co, Ho, Hn, vV, yJ, vU, qb, vR, yH, vS, vX, Cl, vW, oz, sP, sQ, sL, sK, sR, sN, qa, qc, Ck, sM, sO, Cm, Cj, Ci, sU, yK, yI, sS, qg, oA, qe, tG, z5, sG, jZ, A9, A8, vL, DE, Ah, yL, v8, yX, wq, vP, nv, CI, uX, CJ, uY, sg, wY, z0, DB, si, wZ, yQ, DD, DC, Ab, Aa, z9, z8, tT, tS, Dc, Dd, Nt, Nu, Nw, Nx, zF, C6, C7, C8, C9, Da, Db, vH, Cd, yx, yu, pX, yv, na, sC, pY, yw, ou, nc, sA, yy, sB, sE, vG, vF, sy, CS, zn, CH, y5, Nat.beq_refl, wR, zj, tj, CN, zi, wu, qL, oF, rR, tw, zl, wC, rA, sV, Aj, xc, uc, NS, NQ, NL, tc, tV, zM, wN, tD, wM, Dp, zJ, zH, nj, qC, nk, zK, zI, zL, tE, tX, qP, oN, w7, tY, qQ, w8, tW, kV, tZ, oO, p7, ow, Cf, yD, yE, vO, Cg, yC, nf, yF, yZ, yY, ue, Ht, Hs, zN, H7, Ax, xm, DR, Aw, Ay, uk, wO, tF, Bool.and_self, List.getElem?_map, List.length_map, pD, v9, sX, sY, wa, rC, yM, Option.map_none, List.isEmpty_nil, simprocAttr]
theorem Tn : ij T dF (.pure Ca) := by
 intro θ m m' args aA v hg ha h
 unfold Ca at h
 split at h
 ·cases h
  rename_i s c
  have : aA = [.str s, .str [c]] := ha.flat rfl
  subst this;exact ⟨θ, _, Tm, .ret (.int _ _) hg, .refl _ _ _⟩
 ·cases h
end
section
def A0 : Nat -> Option iM := up A00 dF (.pure Ca)
theorem UH : ∀ f e, A0 f = some e -> ij T f e := KM V8 Tn
end
section
theorem UR : isTrue (aW A0 5000 8 [] aQ) = true := by kernel_rfl
def A1 : Nat -> Option iM := up A0 8 (.pure MB)
theorem Ym : ∀ f e, A1 f = some e -> ij T f e := KM UH (Ob UH (F1 := lH) rfl UR)
def K (f : Nat) : Nat := bif Ve f [4, 7, 10, 22, 23, 24, 25, 36, 37, 38, 39, 40, 41, 42, 43, 44, 45, 46, 47, 48, 49, 50, 55, 61, 62, 63, 64, 65, 68, 70, 71, 72, 75, 76, 94, 95, 99, 101] then 1 else bif Ve f [6, 9, 12, 66, 67] then 2 else 0
abbrev B0 : Nat -> Option iM := A1
theorem Yl : ∀ f e, B0 f = some e -> ij T f e := Ym
noncomputable def B1 : Nat -> Option iM := up B0 15 (.spec (kP B0 bu))
theorem Yk : ∀ f e, B1 f = some e -> ij T f e := uJ Yl (F1 := bu) rfl
noncomputable def B2 : Nat -> Option iM := up B1 29 (.spec (kP B1 bD))
theorem Yj : ∀ f e, B2 f = some e -> ij T f e := uJ Yk (F1 := bD) rfl
noncomputable def B3 : Nat -> Option iM := up B2 16 (.spec (kP B2 cC))
theorem Yi : ∀ f e, B3 f = some e -> ij T f e := uJ Yj (F1 := cC) rfl
noncomputable def B4 : Nat -> Option iM := up B3 20 (.spec (kP B3 bz))
theorem Yh : ∀ f e, B4 f = some e -> ij T f e := uJ Yi (F1 := bz) rfl
noncomputable def B5 : Nat -> Option iM := up B4 14 (.spec (kP B4 bG))
theorem Yg : ∀ f e, B5 f = some e -> ij T f e := uJ Yh (F1 := bG) rfl
noncomputable abbrev B : Nat -> Option iM := B5
theorem ab2 : ∀ f e, B f = some e -> ij T f e := Yg
noncomputable abbrev U : Nat -> Option iM := UT B K
instance : ct B5 4 cj := ⟨rfl⟩
instance : e6 K 4 := ⟨rfl⟩
instance : ct B5 6 eW := ⟨rfl⟩
instance : G6 K 6 := ⟨rfl⟩
instance : ct B5 7 hU := ⟨rfl⟩
instance : e6 K 7 := ⟨rfl⟩
instance : ct B5 9 gb := ⟨rfl⟩
instance : G6 K 9 := ⟨rfl⟩
instance : ct B5 10 gr := ⟨rfl⟩
instance : e6 K 10 := ⟨rfl⟩
instance : ct B5 12 gd := ⟨rfl⟩
instance : G6 K 12 := ⟨rfl⟩
instance : ct B5 13 ke := ⟨rfl⟩
instance : dC K 13 := ⟨rfl⟩
instance : dC K 14 := ⟨rfl⟩
instance : dC K 15 := ⟨rfl⟩
instance : dC K 16 := ⟨rfl⟩
instance : ct B5 17 dB := ⟨rfl⟩
instance : dC K 17 := ⟨rfl⟩
instance : ct B5 18 cx := ⟨rfl⟩
instance : dC K 18 := ⟨rfl⟩
instance : ct B5 19 eI := ⟨rfl⟩
instance : dC K 19 := ⟨rfl⟩
instance : dC K 20 := ⟨rfl⟩
instance : ct B5 21 ep := ⟨rfl⟩
instance : dC K 21 := ⟨rfl⟩
instance : ct B5 22 jj := ⟨rfl⟩
instance : e6 K 22 := ⟨rfl⟩
instance : ct B5 23 mZ := ⟨rfl⟩
instance : e6 K 23 := ⟨rfl⟩
instance : ct B5 24 j9 := ⟨rfl⟩
instance : e6 K 24 := ⟨rfl⟩
instance : ct B5 25 ko := ⟨rfl⟩
instance : e6 K 25 := ⟨rfl⟩
instance : ct B5 27 bt := ⟨rfl⟩
instance : dC K 27 := ⟨rfl⟩
instance : ct B5 28 eH := ⟨rfl⟩
instance : dC K 28 := ⟨rfl⟩
instance : dC K 29 := ⟨rfl⟩
instance : ct B5 30 dy := ⟨rfl⟩
instance : dC K 30 := ⟨rfl⟩
instance : ct B5 31 cN := ⟨rfl⟩
instance : dC K 31 := ⟨rfl⟩
instance : ct B5 32 bV := ⟨rfl⟩
instance : dC K 32 := ⟨rfl⟩
instance : ct B5 33 dL := ⟨rfl⟩
instance : dC K 33 := ⟨rfl⟩
instance : ct B5 34 de := ⟨rfl⟩
instance : dC K 34 := ⟨rfl⟩
instance : ct B5 35 cw := ⟨rfl⟩
instance : dC K 35 := ⟨rfl⟩
instance : ct B5 36 lC := ⟨rfl⟩
instance : e6 K 36 := ⟨rfl⟩
instance : ct B5 37 bq := ⟨rfl⟩
instance : e6 K 37 := ⟨rfl⟩
instance : ct B5 38 hZ := ⟨rfl⟩
instance : e6 K 38 := ⟨rfl⟩
instance : ct B5 39 lI := ⟨rfl⟩
instance : e6 K 39 := ⟨rfl⟩
instance : ct B5 40 mY := ⟨rfl⟩
instance : e6 K 40 := ⟨rfl⟩
instance : ct B5 41 m6 := ⟨rfl⟩
instance : e6 K 41 := ⟨rfl⟩
instance : ct B5 42 jl := ⟨rfl⟩
instance : e6 K 42 := ⟨rfl⟩
instance : ct B5 43 jk := ⟨rfl⟩
instance : e6 K 43 := ⟨rfl⟩
instance : ct B5 44 ia := ⟨rfl⟩
instance : e6 K 44 := ⟨rfl⟩
instance : ct B5 45 ib := ⟨rfl⟩
instance : e6 K 45 := ⟨rfl⟩
instance : ct B5 46 j8 := ⟨rfl⟩
instance : e6 K 46 := ⟨rfl⟩
instance : ct B5 47 j7 := ⟨rfl⟩
instance : e6 K 47 := ⟨rfl⟩
instance : ct B5 48 ig := ⟨rfl⟩
instance : e6 K 48 := ⟨rfl⟩
instance : ct B5 49 lG := ⟨rfl⟩
instance : e6 K 49 := ⟨rfl⟩
instance : ct B5 50 gm := ⟨rfl⟩
instance : e6 K 50 := ⟨rfl⟩
instance : ct B5 51 cM := ⟨rfl⟩
instance : dC K 51 := ⟨rfl⟩
instance : ct B5 52 dg := ⟨rfl⟩
instance : dC K 52 := ⟨rfl⟩
instance : ct B5 53 bU := ⟨rfl⟩
instance : dC K 53 := ⟨rfl⟩
instance : ct B5 54 dh := ⟨rfl⟩
instance : dC K 54 := ⟨rfl⟩
instance : ct B5 55 dJ := ⟨rfl⟩
instance : e6 K 55 := ⟨rfl⟩
instance : ct B5 56 dz := ⟨rfl⟩
instance : dC K 56 := ⟨rfl⟩
instance : ct B5 57 eo := ⟨rfl⟩
instance : dC K 57 := ⟨rfl⟩
instance : ct B5 58 dA := ⟨rfl⟩
instance : dC K 58 := ⟨rfl⟩
instance : ct B5 59 cd := ⟨rfl⟩
instance : dC K 59 := ⟨rfl⟩
instance : ct B5 60 dQ := ⟨rfl⟩
instance : dC K 60 := ⟨rfl⟩
instance : ct B5 61 ji := ⟨rfl⟩
instance : e6 K 61 := ⟨rfl⟩
instance : ct B5 62 ka := ⟨rfl⟩
instance : e6 K 62 := ⟨rfl⟩
instance : ct B5 63 hJ := ⟨rfl⟩
instance : e6 K 63 := ⟨rfl⟩
instance : ct B5 64 lD := ⟨rfl⟩
instance : e6 K 64 := ⟨rfl⟩
instance : ct B5 65 j5 := ⟨rfl⟩
instance : e6 K 65 := ⟨rfl⟩
instance : ct B5 66 lE := ⟨rfl⟩
instance : G6 K 66 := ⟨rfl⟩
instance : ct B5 67 lF := ⟨rfl⟩
instance : G6 K 67 := ⟨rfl⟩
instance : ct B5 68 dI := ⟨rfl⟩
instance : e6 K 68 := ⟨rfl⟩
instance : ct B5 69 cS := ⟨rfl⟩
instance : dC K 69 := ⟨rfl⟩
instance : ct B5 70 bC := ⟨rfl⟩
instance : e6 K 70 := ⟨rfl⟩
instance : ct B5 71 pI := ⟨rfl⟩
instance : e6 K 71 := ⟨rfl⟩
instance : ct B5 72 aT := ⟨rfl⟩
instance : e6 K 72 := ⟨rfl⟩
instance : ct B5 73 gq := ⟨rfl⟩
instance : dC K 73 := ⟨rfl⟩
instance : ct B5 74 db := ⟨rfl⟩
instance : dC K 74 := ⟨rfl⟩
instance : ct B5 75 j6 := ⟨rfl⟩
instance : e6 K 75 := ⟨rfl⟩
instance : ct B5 76 aM := ⟨rfl⟩
instance : e6 K 76 := ⟨rfl⟩
instance : ct B5 77 eg := ⟨rfl⟩
instance : dC K 77 := ⟨rfl⟩
instance : ct B5 79 cb := ⟨rfl⟩
instance : dC K 79 := ⟨rfl⟩
instance : ct B5 80 eh := ⟨rfl⟩
instance : dC K 80 := ⟨rfl⟩
instance : ct B5 81 dK := ⟨rfl⟩
instance : dC K 81 := ⟨rfl⟩
instance : ct B5 82 da := ⟨rfl⟩
instance : dC K 82 := ⟨rfl⟩
instance : ct B5 83 dc := ⟨rfl⟩
instance : dC K 83 := ⟨rfl⟩
instance : ct B5 84 fq := ⟨rfl⟩
instance : dC K 84 := ⟨rfl⟩
instance : ct B5 85 ei := ⟨rfl⟩
instance : dC K 85 := ⟨rfl⟩
instance : ct B5 86 fo := ⟨rfl⟩
instance : dC K 86 := ⟨rfl⟩
instance : ct B5 87 fm := ⟨rfl⟩
instance : dC K 87 := ⟨rfl⟩
instance : ct B5 88 er := ⟨rfl⟩
instance : dC K 88 := ⟨rfl⟩
instance : ct B5 89 fi := ⟨rfl⟩
instance : dC K 89 := ⟨rfl⟩
instance : ct B5 90 et := ⟨rfl⟩
instance : dC K 90 := ⟨rfl⟩
instance : ct B5 91 dP := ⟨rfl⟩
instance : dC K 91 := ⟨rfl⟩
instance : ct B5 94 cY := ⟨rfl⟩
instance : e6 K 94 := ⟨rfl⟩
instance : ct B5 95 bl := ⟨rfl⟩
instance : e6 K 95 := ⟨rfl⟩
instance : ct B5 96 cR := ⟨rfl⟩
instance : dC K 96 := ⟨rfl⟩
instance : ct B5 97 dN := ⟨rfl⟩
instance : dC K 97 := ⟨rfl⟩
instance : ct B5 98 cy := ⟨rfl⟩
instance : dC K 98 := ⟨rfl⟩
instance : ct B5 99 bL := ⟨rfl⟩
instance : e6 K 99 := ⟨rfl⟩
instance : ct B5 100 dM := ⟨rfl⟩
instance : dC K 100 := ⟨rfl⟩
instance : ct B5 101 kc := ⟨rfl⟩
instance : e6 K 101 := ⟨rfl⟩
instance : ct B5 102 dO := ⟨rfl⟩
instance : dC K 102 := ⟨rfl⟩
instance : ct B5 103 bS := ⟨rfl⟩
instance : dC K 103 := ⟨rfl⟩
theorem lW {args : List EV} {m : Mem} : run U 15 args m = kP B0 bu args m := Eo (h := ⟨rfl⟩) rfl
theorem rO {args : List EV} {m : Mem} : run B2 15 args m = kP B0 bu args m := rF rfl
theorem mD {args : List EV} {m : Mem} : run U 29 args m = kP B1 bD args m := Eo (h := ⟨rfl⟩) rfl
theorem ti {args : List EV} {m : Mem} : run B2 29 args m = kP B1 bD args m := rF rfl
theorem xq {args : List EV} {m : Mem} : run U 16 args m = kP B2 cC args m := Eo (h := ⟨rfl⟩) rfl
theorem lX {args : List EV} {m : Mem} : run U 20 args m = kP B3 bz args m := Eo (h := ⟨rfl⟩) rfl
theorem rN {args : List EV} {m : Mem} : run B4 20 args m = kP B3 bz args m := rF rfl
theorem th {args : List EV} {m : Mem} : run U 14 args m = kP B4 bG args m := Eo (h := ⟨rfl⟩) rfl
theorem K4 {m : Mem} : run U 8 [] m = some (.ret (.bool true) m) := Ql (f := 8) (by unfold U UT PT; rfl)
end
section
theorem bJ {i : Nat} (h : i < 9223372036854775807) : IntKind.i64.wrap ((i : Int) + 1) = ((i + 1 : Nat) : Int) := by rw [wrap_i64 (by omega) (by omega)]; omega
theorem drop_cons {α : Type} {s : List α} {i : Nat} (h : i < s.length) : s.drop i = s[i] :: s.drop (i + 1) := List.drop_eq_getElem_cons h
theorem lY (p : Int -> Prop) [DecidablePred p] : ∀ s : cm, lead p s <= s.length
 | [] => eX _
 | c :: s => by
  have := lY p s
  unfold lead; split <;> simp only [List.length_cons] <;> omega
theorem wF (p : Int -> Prop) [DecidablePred p] : ∀ s : cm, ∀ c ∈ s.take (lead p s), p (cI c)
 | [], c, h => by simp at h
 | d :: s, c, h => by
  unfold lead at h
  split at h
  ·rename_i hd
   rw [Nat.add_comm, List.take_succ_cons, o6] at h;rcases h with rfl | h
   ·exact hd
   ·exact wF p s c h
  ·simp at h
theorem uH : ∀ s : cm, cP s <= s.length
 | [] => eX _
 | c :: s => by
  simp only [cP];have := lY (fun n => cg n \/ aR n) s
  split <;> simp only [List.length_cons] <;> omega
theorem Ei {s : cm} (h : 0 < s.length) : gN s <= s.length := by
 unfold gN
 split
 ·rename_i q; exact q.1
 ·split <;> omega
def Tok.cells (t : Tok) : List EV := [.int .i64 (t.kind : Int), .str t.text, .int .i64 (t.n : Int), .int .i64 (t.pos : Int)]
theorem td {s : cm} {p : Nat} (dD : 0 < s.length) : mu s p = if aR (cI s[0]) then FK (s.take (lead aR s)) p else (if 0 < cP s /\ s.take (cP s) ∈ jm then .ok ⟨3, s.take (cP s), 0, p⟩
  else if 32 < cP s then .bad 3 p
  else if 0 < cP s then .ok ⟨1, s.take (cP s), 0, p⟩
  else if gN s = 0 then .bad 6 p
  else .ok ⟨4, s.take (gN s), 0, p⟩) := by
 have AB : s[0]? = some s[0] := lp dD
 unfold mu;simp only [AB, Option.mem_def, bj, exists_eq_left']
def jP (l : List Tok) : List (List EV) := l.map Tok.cells
theorem AK (l : List Tok) (t : Tok) : (jP (l ++ [t])).flatten = (jP l).flatten ++ t.cells := by simp [jP]
theorem IV (l : List Tok) : ∀ el ∈ jP l, el.length = 4 := by
 intro el h; obtain ⟨t, _, rfl⟩ := List.mem_map.1 h; rfl
theorem D6 (l : List Tok) : ∀ el ∈ jP l, jr el = true := by
 intro el h; obtain ⟨t, _, rfl⟩ := List.mem_map.1 h; rfl
theorem Eh : ∀ (s : cm) (r : Bool), cW r s <= s.length
 | [], _ => eX _
 | c :: s, r => by
  have := Eh s (if cI c = 10 then false else if cI c = 35 then true else r)
  simp only [cW];generalize (if cI c = 10 then false else if cI c = 35 then true else r) = r1 at this ⊢
  simp only [List.length_cons]
  split <;> omega
theorem uW {s : cm} {p : Nat} {t : Tok} (hs : 0 < s.length) (h : mu s p = .ok t) : 0 < t.text.length /\ t.text.length <= s.length /\ t.pos = p /\ t.text = s.take t.text.length := by
 have AB : s[0]? = some s[0] := lp hs
 have hl := lY aR s
 have hw := uH s
 have hg := Ei hs
 unfold mu at h;simp only [AB, Option.mem_def, bj, exists_eq_left'] at h;have tk : ∀ k, k <= s.length -> (s.take k).length = k := fun k hk => by rw [List.length_take]; omega
 split at h
 ·rename_i hd
  have h1 : 0 < lead aR s := by
   have := drop_cons hs
   rw [List.drop_zero] at this;rw [this, lead, if_pos hd]; omega
  unfold FK at h
  split at h
  ·cases h; rw [tk _ hl]; exact ⟨h1, hl, rfl, rfl⟩
  ·cases h
 ·split at h
  ·rename_i q; cases h; rw [tk _ hw]; exact ⟨q.1, hw, rfl, rfl⟩
  ·split at h
   ·cases h
   ·split at h
    ·rename_i q; cases h; rw [tk _ hw]; exact ⟨q, hw, rfl, rfl⟩
    ·split at h
     ·cases h
     ·rename_i q; cases h; rw [tk _ hg]; exact ⟨by omega, hg, rfl, rfl⟩
theorem Eu {s : cm} {p e q : Nat} (hs : 0 < s.length) (h : mu s p = .bad e q) : q = p /\ 0 < e := by
 rw [td hs] at h;by_cases h1 : aR (cI s[0])
 ·rw [if_pos h1] at h
  unfold FK at h
  cases hn : rJ 0 (s.take (lead aR s)) <;> rw [hn] at h <;> cases h
  exact ⟨rfl, by decide⟩
 ·rw [if_neg h1] at h
  by_cases h2 : 0 < cP s /\ s.take (cP s) ∈ jm
  ·rw [if_pos h2] at h; cases h
  ·rw [if_neg h2] at h
   by_cases h3 : 32 < cP s
   ·rw [if_pos h3] at h; cases h; exact ⟨rfl, by decide⟩
   ·rw [if_neg h3] at h
    by_cases h4 : 0 < cP s
    ·rw [if_pos h4] at h; cases h
    ·rw [if_neg h4] at h
     by_cases h5 : gN s = 0
     ·rw [if_pos h5] at h; cases h; exact ⟨rfl, by decide⟩
     ·rw [if_neg h5] at h; cases h
def BR : AE (List Tok) -> EV
 | .ok l => .tuple [.fz 0 4 (jP l), .agg [.int .i64 0, .int .i64 0]]
 | .bad e p => .tuple [.ae, .agg [.int .i64 (e : Int), .int .i64 (p : Int)]]
theorem AE.map_map {α β γ : Type} (f : α -> β) (g : β -> γ) (x : AE α) : (x.map f).map g = x.map (fun a => g (f a)) := by cases x <;> rfl
theorem Oc {s : cm} (h0 : 0 < cP s) (h1 : cP s <= 32) (h2 : s.take (cP s) ∉ jm) : s.take (cP s) ≠ [] /\ nC (s.take (cP s)) := by
 have hl := uH s
 have hlen : (s.take (cP s)).length = cP s := by rw [List.length_take]; omega
 refine ⟨fun q => by rw [q] at hlen; simp at hlen; omega, ?_, by omega, by omega, h2⟩
 intro i c hi
 cases s with
 | nil => simp at hi
 | cons a s =>
  have hw : cP (a :: s) = if cg (cI a) then 1 + lead (fun n => cg n \/ aR n) s else 0 := rfl
  rw [hw] at hi h0
  split at h0
  ·rename_i ha
   rw [if_pos ha, Nat.add_comm, List.take_succ_cons] at hi
   cases i with
   | zero =>
    simp only [List.getElem?_cons_zero, bj] at hi;subst hi; exact .inl ha
   | succ i =>
    rw [List.getElem?_cons_succ] at hi;have := wF (fun n => cg n \/ aR n) s c (List.mem_of_getElem? hi)
    exact this.elim .inl fun q => .inr ⟨Nat.succ_ne_zero i, q⟩
  ·omega
theorem OI {s : cm} {p : Nat} {t : Tok} (hs : 0 < s.length) (h : mu s p = .ok t) (hk : t.kind = 1) : t.text ≠ [] /\ nC t.text := by
 rw [td hs] at h;by_cases h1 : aR (cI s[0])
 ·rw [if_pos h1] at h
  unfold FK at h
  cases hn : rJ 0 (s.take (lead aR s)) <;> rw [hn] at h <;> cases h
  cases hk
 ·rw [if_neg h1] at h
  by_cases h2 : 0 < cP s /\ s.take (cP s) ∈ jm
  ·rw [if_pos h2] at h; cases h; cases hk
  ·rw [if_neg h2] at h
   by_cases h3 : 32 < cP s
   ·rw [if_pos h3] at h; cases h
   ·rw [if_neg h3] at h
    by_cases h4 : 0 < cP s
    ·rw [if_pos h4] at h; cases h
     exact Oc h4 (by omega) fun q => h2 ⟨h4, q⟩
    ·rw [if_neg h4] at h
     by_cases h5 : gN s = 0
     ·rw [if_pos h5] at h; cases h
     ·rw [if_neg h5] at h; cases h; cases hk
theorem D7 : ∀ (k : Nat) (s : cm) (p : Nat) (l : List Tok), jd k s p = .ok l -> l.length <= s.length /\ ∀ t ∈ l, t.kind = 1 -> t.text ≠ [] /\ nC t.text
 | 0, s, p, l, h => by simp only [jd] at h; cases h
 | k + 1, [], p, l, h => by simp only [jd] at h; cases h; exact ⟨eX _, fun t ht => by cases ht⟩
 | k + 1, c :: s, p, l, h => by
  simp only [jd] at h
  cases ho : mu (c :: s) p with
  | bad e q => rw [ho] at h; cases h
  | ok t =>
   rw [ho] at h;simp only at h
   obtain ⟨g1, g2, g3, g4⟩ := uW (by simp) ho
   cases hr : jd k (((c :: s).drop t.text.length).drop (cW false ((c :: s).drop t.text.length))) (p + t.text.length + cW false ((c :: s).drop t.text.length)) with
   | bad e q => rw [hr] at h; cases h
   | ok l2 =>
    rw [hr] at h
    cases h
    obtain ⟨i1, i2⟩ := D7 k _ _ _ hr
    rw [uE, uE] at i1;refine ⟨by rw [List.length_cons]; omega, fun t' ht' hk => ?_⟩
    rcases o6.1 ht' with rfl | ht'
    ·exact OI (by simp) ho hk
    ·exact i2 t' ht' hk
theorem Ge : ∀ (k : Nat) (s : cm) (p : Nat) (e q : Nat), s.length < k -> jd k s p = .bad e q -> 0 < e
 | 0, s, p, e, q, hk, h => by omega
 | k + 1, [], p, e, q, hk, h => by simp only [jd] at h; cases h
 | k + 1, c :: s, p, e, q, hk, h => by
  simp only [jd] at h
  cases ho : mu (c :: s) p with
  | bad e' q' => rw [ho] at h; cases h; exact (Eu (by simp) ho).2
  | ok t =>
   rw [ho] at h;simp only at h
   obtain ⟨g1, g2, g3, g4⟩ := uW (by simp) ho
   cases hr : jd k (((c :: s).drop t.text.length).drop (cW false ((c :: s).drop t.text.length))) (p + t.text.length + cW false ((c :: s).drop t.text.length)) with
   | bad e' q' =>
    rw [hr] at h; cases h
    exact Ge k _ _ _ _ (by rw [uE, uE, List.length_cons]; rw [List.length_cons] at hk; omega) hr
   | ok l2 => rw [hr] at h; cases h
theorem M7 {s : cm} {e p : Nat} (h : xT s = .bad e p) : 0 < e := by
 unfold xT at h
 split at h
 ·cases h; decide
 ·cases hr : jd (s.length + 1) (s.drop (cW false s)) (cW false s) with
  | bad e' q => rw [hr] at h; cases h; exact Ge _ _ _ _ _ (by rw [uE]; omega) hr
  | ok l2 => rw [hr] at h; cases h
theorem KQ {k : Nat} {s : cm} {p : Nat} (h : s ≠ []) : jd (k + 1) s p = match mu s p with
  | .bad e q => .bad e q
  | .ok t => (jd k ((s.drop t.text.length).drop (cW false (s.drop t.text.length))) (p + t.text.length + cW false (s.drop t.text.length))).map (t :: ·) := by
 cases s with
 | nil => exact absurd rfl h
 | cons c s => rfl
def Tok.move (d : Nat) (t : Tok) : Tok := { t with pos := t.pos + d }
def adR (p : Nat) (s : cm) : AE (List Tok) := jd (s.length + 1) (s.drop (cW false s)) (p + cW false s)
end
section
theorem GB {n : Int} : bA B K HK [.int .u8 n] = some (bo (cg n)) := by
 rw [cO (by simp [ib])]
 simp +contextual -implicitDefEqProofs (maxSteps := 1000000) (maxDischargeDepth := 8) only [ib, cg, aq, aa, implies_true, simprocAttr]
theorem vp {n : Int} : bA B K Js [.int .u8 n] = some (bo (aR n)) := by
 rw [cO (by simp [jk])]
 simp +contextual -implicitDefEqProofs (maxSteps := 1000000) (maxDischargeDepth := 8) only [jk, aR, aq, aa, implies_true, simprocAttr]
def strs (l : List cm) : List (List EV) := l.map fun s => [.str s]
theorem PX : bA B K Jr [] = some (.fz 0 1 (strs jm)) := Bo 10 fun call => by kernel_rfl
theorem Qf {l : List cm} {i : Nat} : (strs l)[i]? = (l[i]?).map fun s => [.str s] := by unfold strs; rw [List.getElem?_map]
theorem IZ {l : List cm} : (strs l).length = l.length := by unfold strs; rw [List.length_map]
theorem Od {ws : List cm} {s : cm} (hw : ws.length < 1000) {m0 : Mem} {fr : Fr} (h0 : fr.get 0 = .str s) (h3 : fr.get 3 = .fz 0 1 (strs ws)) (h4 : fr.get 4 = .int .i64 0) (hd : fr.defers = []) :
  ∃ o, exec U (.loop iz) fr m0 = some o /\ ((s ∈ ws /\ ∃ fr', o = .ret fr' m0 /\ fr'.get 2 = .bool true /\ fr'.defers = []) \/ (s ∉ ws /\ ∃ fr', o = .exit 0 fr' m0 /\ fr'.defers = [])) := by
 refine fC (σ := Nat) (fun i fr m => m = m0 /\ i <= ws.length /\ s ∉ ws.take i /\ fr.get 0 = .str s /\ fr.get 3 = .fz 0 1 (strs ws) /\ fr.get 4 = .int .i64 (i : Int) /\ fr.defers = []) (fun i => ws.length - i) _ ?_ 0 fr m0 ⟨rfl, kW _, by simp, h0, h3, h4, hd⟩
 rintro i fr m ⟨rfl, hi, hn, h0, h3, h4, hd⟩
 generalize hX : exec U iz fr m = X
 by_cases bg : i < ws.length
 ·have hc : (i : Int) < (ws.length : Int) := by omega
  have hg : ws[i]? = some ws[i] := lp bg
  have ol := bJ (i := i) (by omega)
  simp +contextual -implicitDefEqProofs (maxSteps := 1000000) (maxDischargeDepth := 8) only [iz, h0, h3, h4, hd, hc, hg, bg, ol, bi, Qf, IZ, aq, aa, implies_true, simprocAttr] at hX
  subst hX;refine mC (fun he => il (.inl ⟨he ▸ BI bg, _, rfl, ?_, ?_⟩)) (fun he => dq (i + 1) (by omega) ⟨rfl, bg, ?_, ?_, ?_, ?_, ?_⟩)
  case refine_3 =>
   rw [List.take_succ_eq_append_getElem bg, uD]
   rintro (q | q)
   ·exact hn q
   ·exact he (yl.1 q).symm
  all_goals simp only [h0, h3, hd, ao, Nat.reduceBEq ]
 ·have hc : ¬ ((i : Int) < (ws.length : Int)) := by omega
  simp +contextual -implicitDefEqProofs (maxSteps := 1000000) (maxDischargeDepth := 8) only [iz, h0, h3, h4, hd, hc, IZ, aq, aa, implies_true, simprocAttr] at hX
  subst hX;have : ws.take i = ws := Gc (by omega)
  rw [this] at hn;exact dr (.inr ⟨hn, _, rfl, by simp only [hd, ao, Nat.reduceBEq ]⟩)
theorem MC {s : cm} : bA B K Lt [.str s] = some (bo (s ∈ jm)) := by
 rw [cO (by simp [j8])]
 generalize hL : exec (UT B K) (aE.loop iz) = L
 simp +contextual -implicitDefEqProofs (maxSteps := 1000000) (maxDischargeDepth := 8) only [j8, PX, aq, aa, implies_true, simprocAttr]
 subst hL;generalize hX : exec _ (.loop iz) _ _ = X
 obtain ⟨o, rfl, h⟩ := ft hX (Od (ws := jm) (s := s) (by decide) (by simp only [ao, Nat.reduceBEq ]) (by simp only [ao, Nat.reduceBEq ]) (by simp only [ao, Nat.reduceBEq ]) (by simp only [ao, Nat.reduceBEq ]))
 rcases h with ⟨h, fr', rfl, h2, hd⟩ | ⟨h, fr', rfl, hd⟩
 ·simp +contextual -implicitDefEqProofs (maxSteps := 1000000) (maxDischargeDepth := 8) only [h, h2, hd, gl, aq, aa, implies_true, simprocAttr]
 ·simp +contextual -implicitDefEqProofs (maxSteps := 1000000) (maxDischargeDepth := 8) only [h, hd, fG, aq, aa, implies_true, simprocAttr]
theorem OS {s : cm} (hs : s.length < 1000000000) {m0 : Mem} {fr : Fr} (h0 : fr.get 0 = .str s) (h3 : fr.get 3 = .int .i64 0) (hd : fr.defers = []) :
  ∃ o, exec U (.loop iB) fr m0 = some o /\ ((¬ (∀ (i : Nat) (c : UInt8), s[i]? = some c -> cg (cI c) \/ i ≠ 0 /\ aR (cI c)) /\ ∃ fr', o = .ret fr' m0 /\ fr'.get 2 = .bool false /\ fr'.defers = []) \/
   ((∀ (i : Nat) (c : UInt8), s[i]? = some c -> cg (cI c) \/ i ≠ 0 /\ aR (cI c)) /\ ∃ fr', o = .exit 0 fr' m0 /\ fr'.get 0 = .str s /\ fr'.defers = [])) := by
 refine fC (σ := Nat) (fun i fr m => m = m0 /\ i <= s.length /\ fr.get 0 = .str s /\ fr.get 3 = .int .i64 (i : Int) /\ (∀ (j : Nat) (c : UInt8), j < i -> s[j]? = some c -> cg (cI c) \/ j ≠ 0 /\ aR (cI c)) /\ fr.defers = []) (fun i => s.length - i) _ ?_ 0 fr m0 ⟨rfl, kW _, h0, h3, by omega, hd⟩
 rintro i fr m ⟨rfl, hi, h0, h3, hall, hd⟩
 generalize hX : exec U iB fr m = X
 by_cases bg : i < s.length
 ·have hc : (i : Int) < (s.length : Int) := by omega
  have hg : s[i]? = some s[i] := lp bg
  have ol := bJ (i := i) (by omega)
  have hi0 : ((i : Int) = 0) = (i = 0) := by simp
  generalize s[i] = c at hg
  simp +contextual -implicitDefEqProofs (maxSteps := 1000000) (maxDischargeDepth := 8) only [iB, h0, h3, hd, hc, hg, bg, ol, hi0, bi, GB, vp, aq, aa, implies_true, simprocAttr] at hX
  subst hX;refine mC (fun hp => il (Or.inl ⟨fun q => ?_, _, rfl, by simp only [ao, Nat.reduceBEq ], by simp only [hd, ao, Nat.reduceBEq ]⟩)) (fun hp => dq (i + 1) (by omega) ⟨rfl, bg, by simp only [h0, ao, Nat.reduceBEq ], by simp only [ao, Nat.reduceBEq ], fun j d hj WG => ?_, by simp only [hd, ao, Nat.reduceBEq ]⟩)
  ·rcases q i c hg with q | ⟨q1, q2⟩
   ·exact hp.1 q
   ·exact hp.2.elim q1 (fun r => r q2)
  ·by_cases SE : j < i
   ·exact hall j d SE WG
   ·obtain rfl : j = i := by omega
    rw [hg] at WG; cases WG
    by_cases q : cg (cI c)
    ·exact .inl q
    ·exact .inr ⟨fun r => hp ⟨q, .inl r⟩, B9 fun r => hp ⟨q, .inr r⟩⟩
 ·have hc : ¬ ((i : Int) < (s.length : Int)) := by omega
  simp +contextual -implicitDefEqProofs (maxSteps := 1000000) (maxDischargeDepth := 8) only [iB, h0, h3, hd, hc, aq, aa, implies_true, simprocAttr] at hX
  subst hX;exact dr (Or.inr ⟨fun j c hj => hall j c (by have := (rn.1 hj).1; omega) hj, _, rfl, by simp only [h0, ao, Nat.reduceBEq ], by simp only [hd, ao, Nat.reduceBEq ]⟩)
theorem Te {s : cm} (hs : s.length < 1000000000) : bA B K Lv [.str s] = some (bo (nC s)) := by
 rw [cO (by simp [ka])]
 generalize hL : exec (UT B K) (aE.loop iB) = L
 simp +contextual -implicitDefEqProofs (maxSteps := 1000000) (maxDischargeDepth := 8) only [ka, aq, aa, implies_true, simprocAttr]
 subst hL;generalize hX : exec _ (.loop iB) _ _ = X
 obtain ⟨o, rfl, h⟩ := ft hX (OS (s := s) hs (by simp only [ao, Nat.reduceBEq ]) (by simp only [ao, Nat.reduceBEq ]) (by simp only [ao, Nat.reduceBEq ]))
 rcases h with ⟨h, fr', rfl, h2, hd⟩ | ⟨h, fr', rfl, h0, hd⟩
 ·have : ¬ nC s := fun q => h q.1
  simp +contextual -implicitDefEqProofs (maxSteps := 1000000) (maxDischargeDepth := 8) only [this, h2, hd, fG, aq, aa, implies_true, simprocAttr]
 ·simp +contextual -implicitDefEqProofs (maxSteps := 1000000) (maxDischargeDepth := 8) only [h0, hd, MC, aq, aa, implies_true, simprocAttr]
  refine congrArg some (Ap ?_)
  unfold nC
  constructor
  ·rintro ⟨⟨q1, q2⟩, q3⟩; exact ⟨h, by omega, by omega, q3⟩
  ·rintro ⟨_, q1, q2, q3⟩; exact ⟨⟨by omega, by omega⟩, q3⟩
end
section
def ints (l : List Int) : List (List EV) := l.map fun n => [.int .i64 n]
theorem nG {l : List Int} {i : Nat} : (ints l)[i]? = (l[i]?).map fun n => [.int .i64 n] := by unfold ints; rw [List.getElem?_map]
theorem bp {l : List Int} : (ints l).length = l.length := by unfold ints; rw [List.length_map]
theorem JD (l : List Int) : ∀ el ∈ ints l, el.length = 1 := by intro el h; obtain ⟨t, _, rfl⟩ := List.mem_map.1 h; rfl
theorem EI (l : List Int) : ∀ el ∈ ints l, jr el = true := by intro el h; obtain ⟨t, _, rfl⟩ := List.mem_map.1 h; rfl
theorem GI (l : List Int) : (ints l).flatten = l.map (.int .i64) := by
 induction l with
 | nil => rfl
 | cons a l ih => rw [List.map_cons, <- ih]; rfl
theorem AV (l : List Int) (n : Nat) : (ints l).drop n = ints (l.drop n) := by unfold ints; rw [List.map_drop]
theorem O6 (l : List Int) (n : Nat) : (ints l).take n = ints (l.take n) := by unfold ints; rw [List.map_take]
def Nd.cells (d : Nd) : List EV := [.int .i64 d.kind, row d.nl 0 1 (ints d.kids), .int .i64 d.n, .str d.s, .int .i64 d.pos]
def oV (l : List Nd) : List (List EV) := l.map Nd.cells
theorem lQ {l : List Nd} {i : Nat} : (oV l)[i]? = (l[i]?).map Nd.cells := by unfold oV; rw [List.getElem?_map]
theorem jt {l : List Nd} : (oV l).length = l.length := by unfold oV; rw [List.length_map]
theorem zq {n : Nat} {k : IntKind} {x : Int} (h0 : 0 <= x) (h : x < (n : Int)) : idx n (.int k x) = some x.toNat := by
 obtain ⟨i, rfl⟩ := Int.eq_ofNat_of_zero_le h0
 exact bi (by omega)
theorem y9 {l : List Nd} {x : Int} (h0 : 0 <= x) (h : x < (l.length : Int)) : ∃ d, l[x.toNat]? = some d /\ kindOf l x = d.kind := by
 have bg : x.toNat < l.length := by omega
 refine ⟨l[x.toNat], lp bg, ?_⟩
 unfold kindOf; rw [lp bg]; rfl
theorem JX {l : List Int} {t : Nat} {nl : Bool} {x : Int} (hl : l.length < 1000000000) {m0 : Mem} {fr : Fr} (h0 : fr.get 0 = row nl t 1 (ints l)) (h1 : fr.get 1 = .int .i64 x) (h5 : fr.get 5 = .int .i64 0) (hd : fr.defers = []) :
  ∃ o, exec U (.loop fF) fr m0 = some o /\ ((x ∈ l /\ ∃ fr', o = .ret fr' m0 /\ fr'.get 4 = .bool true /\ fr'.defers = []) \/ (x ∉ l /\ ∃ fr', o = .exit 0 fr' m0 /\ fr'.defers = [])) := by
 refine fC (σ := Nat) (fun i fr m => m = m0 /\ i <= l.length /\ x ∉ l.take i /\ fr.get 0 = row nl t 1 (ints l) /\ fr.get 1 = .int .i64 x /\ fr.get 5 = .int .i64 (i : Int) /\ fr.defers = []) (fun i => l.length - i) _ ?_ 0 fr m0 ⟨rfl, kW _, by simp, h0, h1, h5, hd⟩
 rintro i fr m ⟨rfl, hi, hn, h0, h1, h5, hd⟩
 generalize hX : exec U fF fr m = X
 by_cases bg : i < l.length
 ·have hc : (i : Int) < (l.length : Int) := by omega
  have hg : l[i]? = some l[i] := lp bg
  have ol := bJ (i := i) (by omega)
  simp +contextual -implicitDefEqProofs (maxSteps := 1000000) (maxDischargeDepth := 8) only [fF, h0, h1, h5, hd, hc, hg, bg, ol, bi, nG, bp, aq, aa, implies_true, simprocAttr] at hX
  subst hX;refine mC (fun he => il (Or.inl ⟨he ▸ BI bg, _, rfl, by simp only [ao, Nat.reduceBEq ], by simp only [hd, ao, Nat.reduceBEq ]⟩)) (fun he => dq (i + 1) (by omega) ⟨rfl, bg, ?_, by simp only [h0, ao, Nat.reduceBEq ], by simp only [h1, ao, Nat.reduceBEq ], by simp only [ao, Nat.reduceBEq ], by simp only [hd, ao, Nat.reduceBEq ]⟩)
  rw [List.take_succ_eq_append_getElem bg, uD]
  rintro (q | q)
  ·exact hn q
  ·exact he (yl.1 q).symm
 ·have hc : ¬ ((i : Int) < (l.length : Int)) := by omega
  simp +contextual -implicitDefEqProofs (maxSteps := 1000000) (maxDischargeDepth := 8) only [fF, h0, h1, h5, hd, hc, bp, aq, aa, implies_true, simprocAttr] at hX
  subst hX;have : l.take i = l := Gc (by omega)
  rw [this] at hn;exact dr (Or.inr ⟨hn, _, rfl, by simp only [hd, ao, Nat.reduceBEq ]⟩)
theorem wK {l : List Int} {t : Nat} {nl : Bool} {x : Int} (hl : l.length < 1000000000) : bA B K nh [row nl t 1 (ints l), .int .i64 x] = some (bo (x ∈ l)) := by
 rw [cO (by simp [gr])]
 generalize hL : exec (UT B K) (aE.loop fF) = L
 simp +contextual -implicitDefEqProofs (maxSteps := 1000000) (maxDischargeDepth := 8) only [gr, aq, aa, implies_true, simprocAttr]
 subst hL;generalize hX : exec _ (.loop fF) _ _ = X
 obtain ⟨o, rfl, h⟩ := ft hX (JX (l := l) (x := x) (nl := nl) (t := t) hl (by simp only [ao, Nat.reduceBEq ]) (by simp only [ao, Nat.reduceBEq ]) (by simp only [ao, Nat.reduceBEq ]) (by simp only [ao, Nat.reduceBEq ]))
 rcases h with ⟨h, fr', rfl, h2, hd⟩ | ⟨h, fr', rfl, hd⟩
 ·simp +contextual -implicitDefEqProofs (maxSteps := 1000000) (maxDischargeDepth := 8) only [h, h2, hd, gl, aq, aa, implies_true, simprocAttr]
 ·simp +contextual -implicitDefEqProofs (maxSteps := 1000000) (maxDischargeDepth := 8) only [h, hd, fG, aq, aa, implies_true, simprocAttr]
theorem UZ {t e : Nat} {els : List (List EV)} : row false t e els = .fz t e els := rfl
theorem Pg {l : List Int} {t : Nat} {x : Int} (hl : l.length < 1000000000) : bA B K nh [.fz t 1 (ints l), .int .i64 x] = some (bo (x ∈ l)) := by
 rw [<- UZ]; exact wK hl
theorem TR {k : Int} : bA B K Lr [.int .i64 k] = some (bo (kC k)) := by
 rw [cO (by simp [j6])]
 simp +contextual -implicitDefEqProofs (maxSteps := 1000000) (maxDischargeDepth := 8) only [j6, kC, aq, aa, implies_true, simprocAttr]
theorem SP {k : Int} : bA B K Lq [.int .i64 k] = some (bo (iR k)) := by
 rw [cO (by simp [j5])]
 simp +contextual -implicitDefEqProofs (maxSteps := 1000000) (maxDischargeDepth := 8) only [j5, iR, aq, aa, implies_true, simprocAttr]
theorem QR {k : Int} : bA B K Jp [.int .i64 k] = some (bo (k ∈ te)) := by
 rw [cO (by simp [ji])]
 have hf : fu (eE 8 [.int .i64 0]) [(0, 1, .int .i64 4), (1, 1, .int .i64 11), (2, 1, .int .i64 12), (3, 1, .int .i64 13), (4, 1, .int .i64 14), (5, 1, .int .i64 17), (6, 1, .int .i64 24), (7, 1, .int .i64 25)] = some (ints te).flatten := by kernel_rfl
 have hz : ∀ m : Mem, kQ (ext m [.cells (ints te).flatten 1 aP false]) (.slice (nb m.next 0) 0 8 (some 8)) = some (.fz 0 1 (ints te)) := fun m =>
  mV (els := ints te) (e := 1) (cap := some 8) (ty := aP) (ro := false) (by rw [aC rfl (by simp)]; rfl) (JD _) (EI _) rfl
 simp +contextual -implicitDefEqProofs (maxSteps := 1000000) (maxDischargeDepth := 8) only [ji, b8, fA, hf, hz, Nat.mul_one, Pg (l := te) (by decide), aq, aa, implies_true, simprocAttr]
theorem U3 {d : Nd} (hs : d.s.length < 1000000000) : bA B K Gw [.agg d.cells] = some (bo (BO d)) := by
 rw [cO (by simp [lC])]
 have hn := Te hs
 simp +contextual -implicitDefEqProofs (maxSteps := 1000000) (maxDischargeDepth := 8) only [lC, Nd.cells, QR, hn, aq, aa, implies_true, simprocAttr]
 simp only [Vp, Vo];refine eZ ?_
 unfold BO
 grind
end
section
def xI (l : List Nd) (k : List Int) : Prop := ∀ x ∈ k, 0 <= x /\ x < (l.length : Int)
theorem L2 {l : List Nd} {k : List Int} {n t1 t2 : Nat} {nl1 nl2 : Bool} (hv : xI l k) (hk : n <= k.length) (hl : k.length < 1000000000) {m0 : Mem} {fr : Fr} (h0 : fr.get 0 = row nl1 t1 5 (oV l)) (h1 : fr.get 1 = row nl2 t2 1 (ints k)) (h2 : fr.get 2 = .int .i64 (n : Int)) (h7 : fr.get 7 = .int .i64 0) (hd : fr.defers = []) :
  ∃ o, exec U (.loop gG) fr m0 = some o /\ ((¬ (∀ x ∈ k.take n, kC (kindOf l x)) /\ ∃ fr', o = .ret fr' m0 /\ fr'.get 6 = .bool false /\ fr'.defers = []) \/ ((∀ x ∈ k.take n, kC (kindOf l x)) /\ ∃ fr', o = .exit 0 fr' m0 /\ fr'.defers = [])) := by
 refine fC (σ := Nat) (fun i fr m => m = m0 /\ i <= n /\ (∀ x ∈ k.take i, kC (kindOf l x)) /\ fr.get 0 = row nl1 t1 5 (oV l) /\ fr.get 1 = row nl2 t2 1 (ints k) /\ fr.get 2 = .int .i64 (n : Int) /\ fr.get 7 = .int .i64 (i : Int) /\ fr.defers = []) (fun i => n - i) _ ?_ 0 fr m0 ⟨rfl, kW _, by simp, h0, h1, h2, h7, hd⟩
 rintro i fr m ⟨rfl, hi, hn, h0, h1, h2, h7, hd⟩
 generalize hX : exec U gG fr m = X
 by_cases bg : i < n
 ·have hc : (i : Int) < (n : Int) := by omega
  have GL : i < k.length := by omega
  have hg : k[i]? = some k[i] := lp GL
  obtain ⟨x0, x1⟩ := hv k[i] (BI GL)
  obtain ⟨d, hd1, FV⟩ := y9 x0 x1
  have H0 := zq (k := .i64) x0 x1
  have ol := bJ (i := i) (by omega)
  have TA : ∀ q : Prop, (¬ q) = (¬ q) := fun _ => rfl
  simp +contextual -implicitDefEqProofs (maxSteps := 1000000) (maxDischargeDepth := 8) only [gG, h0, h1, h2, h7, hd, hc, hg, GL, ol, bi, nG, bp, lQ, jt, H0, hd1, Nd.cells, TR, aq, aa, implies_true, simprocAttr] at hX
  subst hX;refine mC (fun he => il (Or.inl ⟨fun q => he ?_, _, rfl, by simp only [ao, Nat.reduceBEq ], by simp only [hd, ao, Nat.reduceBEq ]⟩)) (fun he => dq (i + 1) (by omega) ⟨rfl, bg, ?_, by simp only [h0, ao, Nat.reduceBEq ], by simp only [h1, ao, Nat.reduceBEq ], by simp only [h2, ao, Nat.reduceBEq ], by simp only [ao, Nat.reduceBEq ], by simp only [hd, ao, Nat.reduceBEq ]⟩)
  ·rw [<- FV]; exact q _ (List.mem_take_iff_getElem.2 ⟨i, by omega, rfl⟩)
  ·intro x hx
   rw [List.take_succ_eq_append_getElem GL, uD] at hx;rcases hx with hx | hx
   ·exact hn x hx
   ·rw [yl.1 hx, FV]; exact Classical.not_not.1 he
 ·have hc : ¬ ((i : Int) < (n : Int)) := by omega
  obtain rfl : i = n := by omega
  simp +contextual -implicitDefEqProofs (maxSteps := 1000000) (maxDischargeDepth := 8) only [gG, h0, h1, h2, h7, hd, hc, aq, aa, implies_true, simprocAttr] at hX
  subst hX;exact dr (Or.inr ⟨hn, _, rfl, by simp only [hd, ao, Nat.reduceBEq ]⟩)
theorem E0 {l : List Nd} {k : List Int} {n t1 t2 : Nat} {nl1 nl2 : Bool} (hv : xI l k) (hl : k.length < 1000000000) (hn : n < 1000000000) : bA B K qv [row nl1 t1 5 (oV l), row nl2 t2 1 (ints k), .int .i64 (n : Int)] = some (bo (iY l k n)) := by
 rw [cO (by simp [hJ])]
 generalize hL : exec (UT B K) (aE.loop gG) = L
 by_cases hk : n <= k.length
 ·have hc : ¬ ((k.length : Int) < (n : Int)) := by omega
  simp +contextual -implicitDefEqProofs (maxSteps := 1000000) (maxDischargeDepth := 8) only [hJ, hc, bp, aq, aa, implies_true, simprocAttr]
  subst hL;generalize hX : exec _ (.loop gG) _ _ = X
  obtain ⟨o, rfl, h⟩ := ft hX (L2 (l := l) (k := k) (n := n) (t1 := t1) (t2 := t2) (nl1 := nl1) (nl2 := nl2) hv hk hl (by simp only [ao, Nat.reduceBEq ]) (by simp only [ao, Nat.reduceBEq ]) (by simp only [ao, Nat.reduceBEq ]) (by simp only [ao, Nat.reduceBEq ]) (by simp only [ao, Nat.reduceBEq ]))
  rcases h with ⟨h, fr', rfl, h2, hd⟩ | ⟨h, fr', rfl, hd⟩
  ·simp +contextual -implicitDefEqProofs (maxSteps := 1000000) (maxDischargeDepth := 8) only [h2, hd, aq, aa, implies_true, simprocAttr]
   exact congrArg some (sa fun q => h q.2)
  ·simp +contextual -implicitDefEqProofs (maxSteps := 1000000) (maxDischargeDepth := 8) only [hd, aq, aa, implies_true, simprocAttr]
   exact congrArg some (T6 ⟨hk, h⟩)
 ·have hc : (k.length : Int) < (n : Int) := by omega
  simp +contextual -implicitDefEqProofs (maxSteps := 1000000) (maxDischargeDepth := 8) only [hJ, hc, bp, aq, aa, implies_true, simprocAttr]
  exact congrArg some (sa fun q => hk q.1)
theorem Sd {l : List Nd} {k : List Int} {t1 t2 : Nat} {nl1 nl2 : Bool} {kd : Int} {v3 : EV} (hv : xI l k) (hl : k.length < 1000000000) {m0 : Mem} {fr : Fr} (h0 : fr.get 0 = row nl1 t1 5 (oV l)) (h1 : fr.get 1 = row nl2 t2 1 (ints k)) (h2 : fr.get 2 = .int .i64 kd) (h3 : fr.get 3 = v3) (h9 : fr.get 9 = .int .i64 0) (hd : fr.defers = []) :
  ∃ o, exec U (.loop jD) fr m0 = some o /\ ((¬ (∀ x ∈ k, kindOf l x = kd) /\ ∃ fr', o = .ret fr' m0 /\ fr'.get 8 = .bool false /\ fr'.defers = []) \/ ((∀ x ∈ k, kindOf l x = kd) /\ ∃ fr', o = .exit 0 fr' m0 /\ fr'.get 1 = row nl2 t2 1 (ints k) /\ fr'.get 3 = v3 /\ fr'.defers = [])) := by
 refine fC (σ := Nat) (fun i fr m => m = m0 /\ i <= k.length /\ (∀ x ∈ k.take i, kindOf l x = kd) /\ fr.get 0 = row nl1 t1 5 (oV l) /\ fr.get 1 = row nl2 t2 1 (ints k) /\ fr.get 2 = .int .i64 kd /\ fr.get 3 = v3 /\ fr.get 9 = .int .i64 (i : Int) /\ fr.defers = []) (fun i => k.length - i) _ ?_ 0 fr m0 ⟨rfl, kW _, by simp, h0, h1, h2, h3, h9, hd⟩
 rintro i fr m ⟨rfl, hi, hn, h0, h1, h2, h3, h9, hd⟩
 generalize hX : exec U jD fr m = X
 by_cases GL : i < k.length
 ·have hc : (i : Int) < (k.length : Int) := by omega
  have hg : k[i]? = some k[i] := lp GL
  obtain ⟨x0, x1⟩ := hv k[i] (BI GL)
  obtain ⟨d, hd1, FV⟩ := y9 x0 x1
  have H0 := zq (k := .i64) x0 x1
  have ol := bJ (i := i) (by omega)
  simp +contextual -implicitDefEqProofs (maxSteps := 1000000) (maxDischargeDepth := 8) only [jD, h0, h1, h2, h3, h9, hd, hc, hg, GL, ol, bi, nG, bp, lQ, jt, H0, hd1, Nd.cells, aq, aa, implies_true, simprocAttr] at hX
  subst hX;refine mC (fun he => il (Or.inl ⟨fun q => he ?_, _, rfl, by simp only [ao, Nat.reduceBEq ], by simp only [hd, ao, Nat.reduceBEq ]⟩)) (fun he => dq (i + 1) (by omega) ⟨rfl, GL, ?_, by simp only [h0, ao, Nat.reduceBEq ], by simp only [h1, ao, Nat.reduceBEq ], by simp only [h2, ao, Nat.reduceBEq ], by simp only [h3, ao, Nat.reduceBEq ], by simp only [ao, Nat.reduceBEq ], by simp only [hd, ao, Nat.reduceBEq ]⟩)
  ·rw [<- FV]; exact q _ (BI GL)
  ·intro x hx
   rw [List.take_succ_eq_append_getElem GL, uD] at hx;rcases hx with hx | hx
   ·exact hn x hx
   ·rw [yl.1 hx, FV]; exact Classical.not_not.1 he
 ·have hc : ¬ ((i : Int) < (k.length : Int)) := by omega
  rw [Gc (by omega)] at hn;simp +contextual -implicitDefEqProofs (maxSteps := 1000000) (maxDischargeDepth := 8) only [jD, h0, h1, h2, h3, h9, hd, hc, bp, aq, aa, implies_true, simprocAttr] at hX
  subst hX;exact dr (Or.inr ⟨hn, _, rfl, by simp only [h1, ao, Nat.reduceBEq ], by simp only [h3, ao, Nat.reduceBEq ], by simp only [hd, ao, Nat.reduceBEq ]⟩)
theorem all_eq {l : List Nd} {k : List Int} {t1 t2 : Nat} {nl1 nl2 : Bool} {kd : Int} {n : Nat} (hv : xI l k) (hl : k.length < 1000000000) : bA B K mP [row nl1 t1 5 (oV l), row nl2 t2 1 (ints k), .int .i64 kd, .int .i64 (n : Int)] = some (bo (ui l k kd n)) := by
 rw [cO (by simp [lD])]
 generalize hL : exec (UT B K) (aE.loop jD) = L
 simp +contextual -implicitDefEqProofs (maxSteps := 1000000) (maxDischargeDepth := 8) only [lD, aq, aa, implies_true, simprocAttr]
 subst hL;generalize hX : exec _ (.loop jD) _ _ = X
 obtain ⟨o, rfl, h⟩ := ft hX (Sd (l := l) (k := k) (t1 := t1) (t2 := t2) (nl1 := nl1) (nl2 := nl2) (kd := kd) hv hl (by simp only [ao, Nat.reduceBEq ]) (by simp only [ao, Nat.reduceBEq ]) (by simp only [ao, Nat.reduceBEq ]) rfl (by simp only [ao, Nat.reduceBEq ]) (by simp only [ao, Nat.reduceBEq ]))
 rcases h with ⟨h, fr', rfl, h2, hd⟩ | ⟨h, fr', rfl, h1, h3, hd⟩
 ·simp +contextual -implicitDefEqProofs (maxSteps := 1000000) (maxDischargeDepth := 8) only [h2, hd, aq, aa, implies_true, simprocAttr]
  exact congrArg some (sa fun q => h q.1)
 ·simp only [ao, Nat.reduceBEq ] at h3
  simp +contextual -implicitDefEqProofs (maxSteps := 1000000) (maxDischargeDepth := 8) only [h1, h3, hd, bp, aq, aa, implies_true, simprocAttr]
  exact eZ ⟨fun q => ⟨h, by omega⟩, fun q => by have := q.2; omega⟩
theorem O3 {l : List Nd} {k : List Int} {t1 t2 : Nat} {nl1 nl2 : Bool} (hv : xI l k) (hl : k.length < 1000000000) {m0 : Mem} {fr : Fr} (h0 : fr.get 0 = row nl1 t1 5 (oV l)) (h5 : fr.get 5 = row nl2 t2 1 (ints k)) (h6 : fr.get 6 = .int .i64 0) (hd : fr.defers = []) :
  ∃ o, exec U (.loop iv) fr m0 = some o /\ ((¬ (∀ x ∈ k, iR (kindOf l x)) /\ ∃ fr', o = .ret fr' m0 /\ fr'.get 4 = .bool false /\ fr'.defers = []) \/ ((∀ x ∈ k, iR (kindOf l x)) /\ ∃ fr', o = .exit 1 fr' m0 /\ fr'.defers = [])) := by
 refine fC (σ := Nat) (fun i fr m => m = m0 /\ i <= k.length /\ (∀ x ∈ k.take i, iR (kindOf l x)) /\ fr.get 0 = row nl1 t1 5 (oV l) /\ fr.get 5 = row nl2 t2 1 (ints k) /\ fr.get 6 = .int .i64 (i : Int) /\ fr.defers = []) (fun i => k.length - i) _ ?_ 0 fr m0 ⟨rfl, kW _, by simp, h0, h5, h6, hd⟩
 rintro i fr m ⟨rfl, hi, hn, h0, h5, h6, hd⟩
 generalize hX : exec U iv fr m = X
 by_cases GL : i < k.length
 ·have hc : (i : Int) < (k.length : Int) := by omega
  have hg : k[i]? = some k[i] := lp GL
  obtain ⟨x0, x1⟩ := hv k[i] (BI GL)
  obtain ⟨d, hd1, FV⟩ := y9 x0 x1
  have H0 := zq (k := .i64) x0 x1
  have ol := bJ (i := i) (by omega)
  simp +contextual -implicitDefEqProofs (maxSteps := 1000000) (maxDischargeDepth := 8) only [iv, h0, h5, h6, hd, hc, hg, GL, ol, bi, nG, bp, lQ, jt, H0, hd1, Nd.cells, SP, aq, aa, implies_true, simprocAttr] at hX
  subst hX;refine mC (fun he => il (Or.inl ⟨fun q => he ?_, _, rfl, by simp only [ao, Nat.reduceBEq ], by simp only [hd, ao, Nat.reduceBEq ]⟩)) (fun he => dq (i + 1) (by omega) ⟨rfl, GL, ?_, by simp only [h0, ao, Nat.reduceBEq ], by simp only [h5, ao, Nat.reduceBEq ], by simp only [ao, Nat.reduceBEq ], by simp only [hd, ao, Nat.reduceBEq ]⟩)
  ·rw [<- FV]; exact q _ (BI GL)
  ·intro x hx
   rw [List.take_succ_eq_append_getElem GL, uD] at hx;rcases hx with hx | hx
   ·exact hn x hx
   ·rw [yl.1 hx, FV]; exact Classical.not_not.1 he
 ·have hc : ¬ ((i : Int) < (k.length : Int)) := by omega
  rw [Gc (by omega)] at hn;simp +contextual -implicitDefEqProofs (maxSteps := 1000000) (maxDischargeDepth := 8) only [iv, h0, h5, h6, hd, hc, bp, aq, aa, implies_true, simprocAttr] at hX
  subst hX;exact dr (Or.inr ⟨hn, _, rfl, by simp only [hd, ao, Nat.reduceBEq ]⟩)
theorem Ti {l : List Nd} {d : Nd} {t1 : Nat} {nl1 : Bool} (hv : xI l d.kids) (hl : d.kids.length < 1000000000) : bA B K Ex [row nl1 t1 5 (oV l), .agg d.cells] = some (bo (cD l d)) := by
 rw [cO (by simp [bq])]
 generalize hL : exec (UT B K) (aE.loop iv) = L
 obtain ⟨kind, kids, nl, n, s, pos⟩ := d
 simp only at hv hl
 have e1 : ∀ t1 t2 nl1 nl2, bA B K qv [row nl1 t1 5 (oV l), row nl2 t2 1 (ints kids), .int .i64 1] = some (bo (iY l kids 1)) := fun t1 t2 nl1 nl2 => E0 (n := 1) hv hl (by omega)
 have e2 : ∀ t1 t2 nl1 nl2, bA B K qv [row nl1 t1 5 (oV l), row nl2 t2 1 (ints kids), .int .i64 2] = some (bo (iY l kids 2)) := fun t1 t2 nl1 nl2 => E0 (n := 2) hv hl (by omega)
 have ek : ∀ t1 t2 nl1 nl2, bA B K qv [row nl1 t1 5 (oV l), row nl2 t2 1 (ints kids), .int .i64 (kids.length : Int)] = some (bo (iY l kids kids.length)) := fun t1 t2 nl1 nl2 => E0 hv hl hl
 have Rl : ∀ k : List Int, (∀ x ∈ k, x ∈ kids) -> k.length <= kids.length -> ∀ (kd : Int) (n t1 t2 : Nat) (nl1 nl2 : Bool), bA B K mP [row nl1 t1 5 (oV l), row nl2 t2 1 (ints k), .int .i64 kd, .int .i64 (n : Int)] = some (bo (ui l k kd n)) := fun k h1 h2 kd n t1 t2 nl1 nl2 => all_eq (fun x hx => hv x (h1 x hx)) (by omega)
 have a1 : ∀ t1 t2 nl1 nl2, bA B K mP [row nl1 t1 5 (oV l), row nl2 t2 1 (ints (kids.drop 1)), .int .i64 23, .int .i64 1] = some (bo (ui l (kids.drop 1) 23 1)) := Rl _ (fun x hx => List.mem_of_mem_drop hx) (by rw [uE]; omega) 23 1
 have a2 : ∀ t1 t2 nl1 nl2, bA B K mP [row nl1 t1 5 (oV l), row nl2 t2 1 (ints (kids.drop 1)), .int .i64 23, .int .i64 2] = some (bo (ui l (kids.drop 1) 23 2)) := Rl _ (fun x hx => List.mem_of_mem_drop hx) (by rw [uE]; omega) 23 2
 have a3 : ∀ t1 t2 nl1 nl2, bA B K mP [row nl1 t1 5 (oV l), row nl2 t2 1 (ints (kids.drop 2)), .int .i64 23, .int .i64 1] = some (bo (ui l (kids.drop 2) 23 1)) := Rl _ (fun x hx => List.mem_of_mem_drop hx) (by rw [uE]; omega) 23 1
 have a4 : ∀ t1 t2 nl1 nl2, bA B K mP [row nl1 t1 5 (oV l), row nl2 t2 1 (ints (kids.take (kids.length - 1))), .int .i64 24, .int .i64 8] = some (bo (ui l (kids.take (kids.length - 1)) 24 8)) := Rl _ (fun x hx => List.mem_of_mem_take hx) (by rw [List.length_take]; omega) 24 8
 have a5 : ∀ t1 t2 nl1 nl2, bA B K mP [row nl1 t1 5 (oV l), row nl2 t2 1 (ints kids), .int .i64 25, .int .i64 200] = some (bo (ui l kids 25 200)) := Rl _ (fun x hx => hx) (eX _) 25 200
 have c0 : ((kids.length : Int) = 0) = (kids.length = 0) := propext (by omega)
 have c1 : ((kids.length : Int) = 1) = (kids.length = 1) := propext (by omega)
 have c2 : ((kids.length : Int) = 2) = (kids.length = 2) := propext (by omega)
 have c3 : ((kids.length : Int) = 3) = (kids.length = 3) := propext (by omega)
 have c8 : ((kids.length : Int) <= 8) = (kids.length <= 8) := propext (by omega)
 have d1 : ((1 : Int) <= (kids.length : Int)) = (1 <= kids.length) := propext (by omega)
 have d2 : ((2 : Int) <= (kids.length : Int)) = (2 <= kids.length) := propext (by omega)
 by_cases k5 : kind = 5
 ·subst k5
  simp +contextual -implicitDefEqProofs (maxSteps := 1000000) (maxDischargeDepth := 8) only [bq, Nd.cells, bp, c2, e2, aq, aa, implies_true, simprocAttr]
  refine eZ ?_
  simp only [cD]
  grind
 by_cases k8 : kind = 8
 ·subst k8
  simp +contextual -implicitDefEqProofs (maxSteps := 1000000) (maxDischargeDepth := 8) only [bq, Nd.cells, bp, c2, e2, aq, aa, implies_true, simprocAttr]
  refine eZ ?_
  simp only [cD]
  grind
 by_cases k14 : kind = 14
 ·subst k14
  simp +contextual -implicitDefEqProofs (maxSteps := 1000000) (maxDischargeDepth := 8) only [bq, Nd.cells, bp, c2, e2, aq, aa, implies_true, simprocAttr]
  refine eZ ?_
  simp only [cD]
  grind
 by_cases k6 : kind = 6
 ·subst k6
  simp +contextual -implicitDefEqProofs (maxSteps := 1000000) (maxDischargeDepth := 8) only [bq, Nd.cells, bp, c1, e1, aq, aa, implies_true, simprocAttr]
  refine eZ ?_
  simp only [cD]
  grind
 by_cases k7 : kind = 7
 ·subst k7
  simp +contextual -implicitDefEqProofs (maxSteps := 1000000) (maxDischargeDepth := 8) only [bq, Nd.cells, bp, c1, e1, aq, aa, implies_true, simprocAttr]
  refine eZ ?_
  simp only [cD]
  grind
 by_cases k9 : kind = 9
 ·subst k9
  simp +contextual -implicitDefEqProofs (maxSteps := 1000000) (maxDischargeDepth := 8) only [bq, Nd.cells, bp, c1, e1, aq, aa, implies_true, simprocAttr]
  refine eZ ?_
  simp only [cD]
  grind
 by_cases Re : kind = 10
 ·subst Re
  simp +contextual -implicitDefEqProofs (maxSteps := 1000000) (maxDischargeDepth := 8) only [bq, Nd.cells, bp, c1, e1, aq, aa, implies_true, simprocAttr]
  refine eZ ?_
  simp only [cD]
  grind
 by_cases Tj : kind = 12
 ·subst Tj
  simp +contextual -implicitDefEqProofs (maxSteps := 1000000) (maxDischargeDepth := 8) only [bq, Nd.cells, bp, c1, e1, aq, aa, implies_true, simprocAttr]
  refine eZ ?_
  simp only [cD]
  grind
 by_cases Wv : kind = 13
 ·subst Wv
  simp +contextual -implicitDefEqProofs (maxSteps := 1000000) (maxDischargeDepth := 8) only [bq, Nd.cells, bp, c1, e1, aq, aa, implies_true, simprocAttr]
  refine eZ ?_
  simp only [cD]
  grind
 by_cases k20 : kind = 20
 ·subst k20
  simp +contextual -implicitDefEqProofs (maxSteps := 1000000) (maxDischargeDepth := 8) only [bq, Nd.cells, bp, c1, e1, aq, aa, implies_true, simprocAttr]
  refine eZ ?_
  simp only [cD]
  grind
 by_cases k21 : kind = 21
 ·subst k21
  simp +contextual -implicitDefEqProofs (maxSteps := 1000000) (maxDischargeDepth := 8) only [bq, Nd.cells, bp, c1, e1, aq, aa, implies_true, simprocAttr]
  refine eZ ?_
  simp only [cD]
  grind
 by_cases Ut : kind = 11
 ·subst Ut
  simp +contextual -implicitDefEqProofs (maxSteps := 1000000) (maxDischargeDepth := 8) only [bq, Nd.cells, bp, c8, ek, aq, aa, implies_true, simprocAttr]
  refine eZ ?_
  simp only [cD]
  grind
 by_cases k26 : kind = 26
 ·subst k26
  simp +contextual -implicitDefEqProofs (maxSteps := 1000000) (maxDischargeDepth := 8) only [bq, Nd.cells, bp, a5, aq, aa, implies_true, simprocAttr]
  refine eZ ?_
  simp only [cD]
  grind
 by_cases k23 : kind = 23
 ·subst k23
  simp +contextual -implicitDefEqProofs (maxSteps := 1000000) (maxDischargeDepth := 8) only [bq, Nd.cells, bp, aq, aa, implies_true, simprocAttr]
  subst hL;generalize hX : exec _ (.loop iv) _ _ = X
  obtain ⟨o, rfl, h⟩ := ft hX (O3 (l := l) (k := kids) (t1 := t1) (t2 := 0) (nl1 := nl1) (nl2 := nl) hv hl (by simp only [ao, Nat.reduceBEq ]) (by simp only [ao, Nat.reduceBEq ]) (by simp only [ao, Nat.reduceBEq ]) (by simp only [ao, Nat.reduceBEq ]))
  rcases h with ⟨h, fr', rfl, h2, hd⟩ | ⟨h, fr', rfl, hd⟩
  ·simp +contextual -implicitDefEqProofs (maxSteps := 1000000) (maxDischargeDepth := 8) only [h2, hd, aq, aa, implies_true, simprocAttr]
   refine congrArg some (sa fun q => h ?_)
   simp only [cD] at q
   grind
  ·simp +contextual -implicitDefEqProofs (maxSteps := 1000000) (maxDischargeDepth := 8) only [hd, aq, aa, implies_true, simprocAttr]
   refine congrArg some (T6 ?_)
   simp only [cD]
   grind
 by_cases k22 : kind = 22
 ·subst k22
  by_cases h1 : kids.length = 1
  ·obtain ⟨x, rfl⟩ : ∃ x, kids = [x] := List.length_eq_one_iff.1 h1
   obtain ⟨x0, x1⟩ := hv x (by simp)
   obtain ⟨d, hd1, FV⟩ := y9 x0 x1
   have H0 := zq (k := .i64) x0 x1
   have hg : ([x] : List Int)[0]? = some x := rfl
   have bg : 0 < ([x] : List Int).length := Nat.zero_lt_one
   have c1' : (([x] : List Int).length : Int) = 1 := rfl
   simp +contextual -implicitDefEqProofs (maxSteps := 1000000) (maxDischargeDepth := 8) only [bq, Nd.cells, bp, c1', hg, bg, zp, nG, lQ, jt, H0, hd1, aq, aa, implies_true, simprocAttr]
   refine eZ ?_
   simp only [cD];rw [<- FV]; simp
  ·simp +contextual -implicitDefEqProofs (maxSteps := 1000000) (maxDischargeDepth := 8) only [bq, Nd.cells, bp, c1, h1, aq, aa, implies_true, simprocAttr]
   refine congrArg some (sa fun q => h1 ?_)
   simp only [cD] at q
   grind
 have s1 : 1 <= kids.length -> ay (some (.int .i64 1)) 0 kids.length = some 1 := fun h => cJ (i := 1) h
 have s2 : 2 <= kids.length -> ay (some (.int .i64 2)) 0 kids.length = some 2 := fun h => cJ (i := 2) h
 have sn : ay none kids.length kids.length = some kids.length := rfl
 have st : (ints kids).take kids.length = ints kids := Gc (by rw [bp]; omega)
 have g1 : (2 <= kids.length) -> 1 <= kids.length := by omega
 have g2 : (kids.length = 2) -> 1 <= kids.length := by omega
 have g3 : (kids.length = 3) -> 2 <= kids.length := by omega
 by_cases k15 : kind = 15
 ·subst k15
  by_cases hk : 1 <= kids.length
  ·have sb := s1 hk
   simp +contextual -implicitDefEqProofs (maxSteps := 1000000) (maxDischargeDepth := 8) only [bq, Nd.cells, bp, AV, d2, e1, a2, sb, sn, st, aq, aa, implies_true, simprocAttr]
   refine eZ ?_
   simp only [cD]
   grind
  ·have iJ : ¬ iY l kids 1 := fun q => hk q.1
   simp +contextual -implicitDefEqProofs (maxSteps := 1000000) (maxDischargeDepth := 8) only [bq, Nd.cells, bp, d2, e1, a2, iJ, aq, aa, implies_true, simprocAttr]
   refine congrArg some (sa fun q => ?_)
   simp only [cD] at q
   grind
 by_cases k16 : kind = 16
 ·subst k16
  by_cases hk : kids.length = 2
  ·have sb : ay (some (.int .i64 1)) 0 2 = some 1 := rfl
   have sn : ay none 2 2 = some 2 := rfl
   have st : (ints kids).take 2 = ints kids := Gc (by rw [bp]; omega)
   simp +contextual -implicitDefEqProofs (maxSteps := 1000000) (maxDischargeDepth := 8) only [bq, Nd.cells, bp, AV, hk, e1, a1, sb, sn, st, c2, aq, aa, implies_true, simprocAttr]
   refine eZ ?_
   simp only [cD]
   grind
  ·simp +contextual -implicitDefEqProofs (maxSteps := 1000000) (maxDischargeDepth := 8) only [bq, Nd.cells, bp, e1, c2, hk, aq, aa, implies_true, simprocAttr]
   refine congrArg some (sa fun q => ?_)
   simp only [cD] at q
   grind
 by_cases k17 : kind = 17
 ·subst k17
  by_cases hk : kids.length = 3
  ·have sb : ay (some (.int .i64 2)) 0 3 = some 2 := rfl
   have sn : ay none 3 3 = some 3 := rfl
   have st : (ints kids).take 3 = ints kids := Gc (by rw [bp]; omega)
   simp +contextual -implicitDefEqProofs (maxSteps := 1000000) (maxDischargeDepth := 8) only [bq, Nd.cells, bp, AV, hk, e2, a3, sb, sn, st, c3, aq, aa, implies_true, simprocAttr]
   refine eZ ?_
   simp only [cD]
   grind
  ·simp +contextual -implicitDefEqProofs (maxSteps := 1000000) (maxDischargeDepth := 8) only [bq, Nd.cells, bp, e2, c3, hk, aq, aa, implies_true, simprocAttr]
   refine congrArg some (sa fun q => ?_)
   simp only [cD] at q
   grind
 by_cases k25 : kind = 25
 ·subst k25
  by_cases hk : 1 <= kids.length
  ·have bg : kids.length - 1 < kids.length := by omega
   have hg : kids[kids.length - 1]? = some kids[kids.length - 1] := lp bg
   obtain ⟨x0, x1⟩ := hv kids[kids.length - 1] (BI bg)
   obtain ⟨d, hd1, FV⟩ := y9 x0 x1
   have H0 := zq (k := .i64) x0 x1
   have hw : IntKind.i64.wrap ((kids.length : Int) - 1) = ((kids.length - 1 : Nat) : Int) := by rw [wrap_i64 (by omega) (by omega)]; omega
   have sb : ay (some (.int .i64 ((kids.length - 1 : Nat) : Int))) kids.length kids.length = some (kids.length - 1) := cJ (by omega)
   have s0 : ∀ n, ay none 0 n = some 0 := fun _ => rfl
   have nS : (1 : Int) <= (kids.length : Int) := by omega
   simp +contextual -implicitDefEqProofs (maxSteps := 1000000) (maxDischargeDepth := 8) only [bq, Nd.cells, bp, O6, nS, hw, hg, bg, sb, s0, a4, bi, nG, lQ, jt, H0, hd1, List.drop_zero, aq, aa, implies_true, simprocAttr]
   refine eZ ?_
   simp only [cD];rw [<- FV, List.getLast?_eq_getElem?, hg]; simp [hk]
  ·have nS : ¬ (1 : Int) <= (kids.length : Int) := by omega
   simp +contextual -implicitDefEqProofs (maxSteps := 1000000) (maxDischargeDepth := 8) only [bq, Nd.cells, bp, nS, aq, aa, implies_true, simprocAttr]
   refine congrArg some (sa fun q => ?_)
   simp only [cD] at q
   grind
 simp +contextual -implicitDefEqProofs (maxSteps := 1000000) (maxDischargeDepth := 8) only [bq, Nd.cells, bp, c0, k5, k8, k14, k6, k7, k9, Re, Tj, Wv, k20, k21, Ut, k26, k23, k22, k15, k16, k17, k25, aq, aa, implies_true, simprocAttr]
 refine eZ ?_
 simp only [cD]
 grind
end
section
theorem LW {l : List Nd} (hk : l6 l) : ∀ (f i : Nat), i < f -> uq l f i = gQ l i := by
 have key : ∀ (i f g : Nat), i < f -> i < g -> uq l f i = uq l g i := by
  intro i
  induction i using Nat.strongRecOn with
  | _ i ih =>
   intro f g hf hg
   obtain ⟨f, rfl⟩ : ∃ f', f = f' + 1 := ⟨f - 1, by omega⟩
   obtain ⟨g, rfl⟩ : ∃ g', g = g' + 1 := ⟨g - 1, by omega⟩
   simp only [uq]
   cases hd : l[i]? with
   | none => rfl
   | some d =>
    simp only
    have hx := hk i d hd
    generalize d.kids = ks at hx
    have : ∀ (ks : List Int) (a : Nat), (∀ x ∈ ks, 0 <= x /\ x < (i : Int)) -> ks.foldl (fun h x => max h (1 + uq l f x.toNat)) a = ks.foldl (fun h x => max h (1 + uq l g x.toNat)) a := by
     intro ks
     induction ks with
     | nil => intro a _; rfl
     | cons x ks Rh =>
      intro a h
      have := h x (by simp)
      rw [List.foldl_cons, List.foldl_cons, ih x.toNat (by omega) f g (by omega) (by omega)];exact Rh _ fun y hy => h y (by simp [hy])
    exact this ks 1 hx
 intro f i h
 exact key i f (i + 1) h (by omega)
theorem u9 {l : List Nd} (hk : l6 l) {i : Nat} {d : Nd} (hd : l[i]? = some d) : gQ l i = d.kids.foldl (fun h x => max h (1 + gQ l x.toNat)) 1 := by
 unfold gQ;rw [uq];simp only [hd];have hx := hk i d hd
 generalize d.kids = ks at hx
 have : ∀ (ks : List Int) (a : Nat), (∀ x ∈ ks, 0 <= x /\ x < (i : Int)) -> ks.foldl (fun h x => max h (1 + uq l i x.toNat)) a = ks.foldl (fun h x => max h (1 + uq l (x.toNat + 1) x.toNat)) a := by
  intro ks
  induction ks with
  | nil => intro a _; rfl
  | cons x ks Rh =>
   intro a h
   have := h x (by simp)
   rw [List.foldl_cons, List.foldl_cons, LW hk i x.toNat (by omega)];exact Rh _ fun y hy => h y (by simp [hy])
 exact this ks 1 hx
theorem JQ {l : List Nd} (hk : l6 l) : ∀ i, gQ l i <= i + 1 := by
 intro i
 induction i using Nat.strongRecOn with
 | _ i ih =>
  cases hd : l[i]? with
  | none => unfold gQ uq; rw [hd]; simp
  | some d =>
   rw [u9 hk hd];have hx := hk i d hd
   generalize d.kids = ks at hx
   have : ∀ (ks : List Int) (a : Nat), a <= i + 1 -> (∀ x ∈ ks, 0 <= x /\ x < (i : Int)) -> ks.foldl (fun h x => max h (1 + gQ l x.toNat)) a <= i + 1 := by
    intro ks
    induction ks with
    | nil => intro a h _; exact h
    | cons x ks Rh =>
     intro a ha h
     have h1 := h x (by simp)
     have h2 := ih x.toNat (by omega)
     rw [List.foldl_cons];exact Rh _ (by omega) fun y hy => h y (by simp [hy])
   exact this ks 1 (by omega) hx
theorem JT {l : List Nd} {t : Nat} {nl : Bool} {i : Nat} {d : Nd} (hk : l6 l) (hl : l.length < 1000000) (hd0 : l[i]? = some d) (GM : d.kids.length < 1000000000) (ih : ∀ j : Nat, j < i -> bA B K zd [row nl 1 5 (oV l), .int .i64 (j : Int)] = some (.int .i64 (gQ l j : Int))) {m0 : Mem} {fr : Fr} (h0 : fr.get 0 = row nl t 5 (oV l)) (h1 : fr.get 1 = .int .i64 (i : Int)) (h5 : fr.get 5 = .int .i64 1) (h6 : fr.get 6 = .int .i64 0) (hd : fr.defers = []) :
  ∃ o, exec U (.loop fS) fr m0 = some o /\ ∃ fr', o = .exit 0 fr' m0 /\ fr'.get 5 = .int .i64 (gQ l i : Int) /\ fr'.defers = [] := by
 have LO := hk i d hd0
 have SF : i < l.length := (rn.1 hd0).1
 have Pc : ∀ (ks : List Int) (a : Nat), (∀ x ∈ ks, 0 <= x /\ x < (i : Int)) -> a <= i + 1 -> ks.foldl (fun h x => max h (1 + gQ l x.toNat)) a <= i + 1 := by
  intro ks
  induction ks with
  | nil => intro a _ h; exact h
  | cons x ks Rh =>
   intro a h ha
   have h1 := h x (by simp)
   have h2 := JQ hk x.toNat
   rw [List.foldl_cons];exact Rh _ (fun y hy => h y (by simp [hy])) (by omega)
 refine fC (σ := Nat) (fun j fr m => m = m0 /\ j <= d.kids.length /\ fr.get 0 = row nl t 5 (oV l) /\ fr.get 1 = .int .i64 (i : Int) /\ fr.get 5 = .int .i64 (((d.kids.take j).foldl (fun h x => max h (1 + gQ l x.toNat)) 1 : Nat) : Int) /\ fr.get 6 = .int .i64 (j : Int) /\ fr.defers = []) (fun j => d.kids.length - j) _ ?_ 0 fr m0 ⟨rfl, kW _, h0, h1, by simpa using h5, h6, hd⟩
 rintro j fr m ⟨rfl, hj, h0, h1, h5, h6, hd⟩
 generalize hX : exec U fS fr m = X
 by_cases bg : j < d.kids.length
 ·have hc : (j : Int) < (d.kids.length : Int) := by omega
  have hg : d.kids[j]? = some d.kids[j] := lp bg
  obtain ⟨x0, x1⟩ := LO d.kids[j] (BI bg)
  have hih := ih d.kids[j].toNat (by omega)
  have FT : (d.kids.take (j + 1)).foldl (fun h x => max h (1 + gQ l x.toNat)) 1 = max ((d.kids.take j).foldl (fun h x => max h (1 + gQ l x.toNat)) 1) (1 + gQ l d.kids[j].toNat) := by
   rw [List.take_succ_eq_append_getElem bg, List.foldl_append]; rfl
  have hle := Pc (d.kids.take j) 1 (fun x hx => LO x (List.mem_of_mem_take hx)) (by omega)
  have LS := JQ hk d.kids[j].toNat
  have Rk : ((d.kids[j].toNat : Nat) : Int) = d.kids[j] := Int.toNat_of_nonneg x0
  rw [Rk] at hih;generalize d.kids[j] = x at *
  generalize hA : (d.kids.take j).foldl (fun h x => max h (1 + gQ l x.toNat)) 1 = A at *
  have ol := bJ (i := j) (by omega)
  have Tt : IntKind.i64.wrap (1 + (gQ l x.toNat : Int)) = ((1 + gQ l x.toNat : Nat) : Int) := by rw [wrap_i64 (by omega) (by omega)]; omega
  have zy : uu [.int .i64 (A : Int), .int .i64 ((1 + gQ l x.toNat : Nat) : Int)] = some (.int .i64 ((max A (1 + gQ l x.toNat) : Nat) : Int)) := by
   simp only [uu, lV, Nat.beq_refl, cond_true]
   congr 2
   split <;> omega
  simp +contextual -implicitDefEqProofs (maxSteps := 1000000) (maxDischargeDepth := 8) only [fS, h0, h1, h5, h6, hd, hd0, SF, hc, hg, bg, ol, Tt, zy, bi, nG, bp, lQ, jt, Nd.cells, hih, aq, aa, implies_true, simprocAttr] at hX
  subst hX;exact dq (j + 1) (by omega) ⟨rfl, bg, by simp only [h0, ao, Nat.reduceBEq ], by simp only [h1, ao, Nat.reduceBEq ], by simp only [FT, ao, Nat.reduceBEq ], by simp only [ao, Nat.reduceBEq ], by simp only [hd, ao, Nat.reduceBEq ]⟩
 ·have hc : ¬ ((j : Int) < (d.kids.length : Int)) := by omega
  rw [Gc (by omega), <- u9 hk hd0] at h5;simp +contextual -implicitDefEqProofs (maxSteps := 1000000) (maxDischargeDepth := 8) only [fS, h0, h1, h5, h6, hd, hd0, SF, hc, bi, bp, lQ, jt, Nd.cells, aq, aa, implies_true, simprocAttr] at hX
  subst hX;exact dr ⟨_, rfl, by simp only [h5, ao, Nat.reduceBEq ], by simp only [hd, ao, Nat.reduceBEq ]⟩
theorem Pe {l : List Nd} {nl : Bool} (hk : l6 l) (hl : l.length < 1000000) (GM : ∀ d ∈ l, d.kids.length < 1000000000) : ∀ i : Nat, i < l.length -> ∀ t, bA B K zd [row nl t 5 (oV l), .int .i64 (i : Int)] = some (.int .i64 (gQ l i : Int)) := by
 intro i
 induction i using Nat.strongRecOn with
 | _ i ih =>
  intro SF t
  have hd0 : l[i]? = some l[i] := lp SF
  rw [cO (by simp [hZ])]
  generalize hL : exec (UT B K) (aE.loop fS) = L
  simp +contextual -implicitDefEqProofs (maxSteps := 1000000) (maxDischargeDepth := 8) only [hZ, aq, aa, implies_true, simprocAttr]
  subst hL;generalize hX : exec _ (.loop fS) _ _ = X
  obtain ⟨o, rfl, fr', rfl, h5, hd⟩ := ft hX (JT (l := l) (t := t) (nl := nl) (i := i) hk hl hd0 (GM _ (BI SF)) (fun j hj => ih j hj (by omega) 1) (by simp only [ao, Nat.reduceBEq ]) (by simp only [ao, Nat.reduceBEq ]) (by simp only [ao, Nat.reduceBEq ]) (by simp only [ao, Nat.reduceBEq ]) (by simp only [ao, Nat.reduceBEq ]))
  simp +contextual -implicitDefEqProofs (maxSteps := 1000000) (maxDischargeDepth := 8) only [h5, hd, aq, aa, implies_true, simprocAttr]
end
section
def E8 (l : List Nd) (a : Int) : Nat := (gW l).count a
theorem Kh {a : Int} : E8 [] a = 0 := rfl
theorem Af {x y : List Nd} {a : Int} : E8 (x ++ y) a = E8 x a + E8 y a := by simp [E8, gW]
theorem Kg {d : Nd} {a : Int} : E8 [d] a = d.kids.count a := by simp [E8, gW]
def JJ (lo hi : Nat) (a : Int) : Nat := if (lo : Int) <= a /\ a < (hi : Int) then 1 else 0
theorem rQ {a b c : Nat} {x : Int} (h : a <= b) (h' : b <= c) : JJ a c x = JJ a b x + JJ b c x := by
 unfold JJ;by_cases h1 : (a : Int) <= x /\ x < (b : Int) <;> by_cases h2 : (b : Int) <= x /\ x < (c : Int) <;> by_cases h3 : (a : Int) <= x /\ x < (c : Int) <;> first | (rw [if_pos h1, if_pos h2]; exfalso; omega) | (rw [if_pos h1, if_neg h2, if_pos h3]) | (rw [if_neg h1, if_pos h2, if_pos h3]) | (rw [if_neg h1, if_neg h2, if_neg h3]) | (exfalso; omega)
theorem JI {a : Nat} {x : Int} : JJ a a x = 0 := by unfold JJ; rw [if_neg (by omega)]
theorem HU {a : Nat} {x : Int} : JJ a (a + 1) x = [(a : Int)].count x := by
 unfold JJ;by_cases h : x = (a : Int)
 ·subst h; rw [if_pos (by omega)]; simp
 ·rw [if_neg (by omega), List.count_eq_zero_of_not_mem (by simpa using h)]
structure So (l : List Tok) (d : Nd) : Prop where
 own : BO d
 kind : kC d.kind
 pos : ∃ t ∈ l, d.pos = (t.pos : Int)
 kn : if d.kind = 5 \/ d.kind = 8 then d.kids.length = 2 else if d.kind = 6 \/ d.kind = 7 \/ d.kind = 9 \/ d.kind = 10 then d.kids.length = 1 else if d.kind = 11 then d.kids.length <= 8 else d.kids.length = 0
structure adF (l : List Tok) (st : RS) : Prop where
 lt : l6 st.tree
 hl : st.high.length = st.tree.length
 hh : ∀ i, i < st.tree.length -> st.high[i]? = some (gQ st.tree i)
structure TI (l : List Tok) (st : RS) : Prop where
 t : st.fe = 0 -> adF l st
 f : st.fe ≠ 0 -> ∃ t ∈ l, st.fp = (t.pos : Int)
structure iL (l : List Tok) (ins : List Int) (st s1 : RS) (r : List Int) : Prop where
 inv : TI l s1
 ok : s1.fe = 0 -> st.fe = 0 /\ ∃ new, s1.tree = st.tree ++ new /\ (∀ d ∈ new, So l d) /\ ∀ a, E8 new a + r.count a = ins.count a + JJ st.tree.length s1.tree.length a
section
variable {l : List Tok} {st s1 s2 : RS}
theorem lP (h : 0 < l.length) : st.now l ∈ l := by
 have : min st.pos (l.length - 1) < l.length := by omega
 unfold RS.now;rw [List.getD_eq_getElem?_getD, lp this];exact BI this
theorem TI.same (h : TI l st) (h1 : s1.tree = st.tree) (h2 : s1.high = st.high) (h3 : s1.fe = st.fe) (h4 : s1.fp = st.fp) : TI l s1 where
 t q := by have := h.t (h3 ▸ q); exact ⟨by rw [h1]; exact this.lt, by rw [h1, h2]; exact this.hl, by rw [h1, h2]; exact this.hh⟩
 f q := by rw [h4]; exact h.f (h3 ▸ q)
theorem TI.fail (h : TI l st) {e : Int} {p : Int} (he : e ≠ 0) (hp : ∃ t ∈ l, p = (t.pos : Int)) : TI l (st.fail e p) := by
 unfold RS.fail
 split
 ·exact ⟨fun q => absurd q he, fun _ => hp⟩
 ·exact h
theorem TI.next (h : TI l st) : TI l st.next := h.same rfl rfl rfl rfl
theorem TI.close (h : TI l st) : TI l st.close := h.same rfl rfl rfl rfl
theorem TI.open (h : TI l st) {p : Int} (hp : ∃ t ∈ l, p = (t.pos : Int)) : TI l (st.open p) := by
 unfold RS.open
 split
 ·exact TI.fail (e := 4) (h.same (s1 := { st with deep := st.deep + 1 }) rfl rfl rfl rfl) (by decide) hp
 ·exact h.same rfl rfl rfl rfl
theorem TI.want (hl : 0 < l.length) (h : TI l st) {s : cm} : TI l (st.want l s) := by
 unfold RS.want
 split
 ·exact h.next
 ·exact h.fail (by decide) ⟨_, lP hl, rfl⟩
theorem jN {s : cm} (h : (st.want l s).fe = 0) : st.fe = 0 /\ (st.want l s).tree = st.tree := by
 unfold RS.want at h ⊢
 split at h
 ·rename_i q; rw [if_pos q]; exact ⟨h, rfl⟩
 ·exact absurd h (ey (by decide))
theorem CC {p : Int} (h : (st.open p).fe = 0) : st.fe = 0 /\ (st.open p).tree = st.tree := by
 unfold RS.open at h ⊢
 split at h
 ·exact absurd h (ey (by decide))
 ·rename_i q; rw [if_neg q]; exact ⟨h, rfl⟩
theorem GN {x y : List Nd} (hk : l6 (x ++ y)) : ∀ i, i < x.length -> gQ (x ++ y) i = gQ x i := by
 intro i
 induction i using Nat.strongRecOn with
 | _ i ih =>
  intro hi
  have WE : l6 x := fun j d hj => hk j d (by rw [B8 (rn.1 hj).1]; exact hj)
  have hd : x[i]? = some x[i] := lp hi
  have FW : (x ++ y)[i]? = some x[i] := by rw [B8 hi]; exact hd
  rw [u9 hk FW, u9 WE hd];have bg := WE i _ hd
  have : ∀ (ks : List Int) (a : Nat), (∀ z ∈ ks, 0 <= z /\ z < (i : Int)) -> ks.foldl (fun h Ze => max h (1 + gQ (x ++ y) Ze.toNat)) a = ks.foldl (fun h Ze => max h (1 + gQ x Ze.toNat)) a := by
   intro ks
   induction ks with
   | nil => intro _ _; rfl
   | cons z ks Rh =>
    intro a hz
    have hz0 := hz z (by simp)
    rw [List.foldl_cons, List.foldl_cons, ih z.toNat (by omega) (by omega)];exact Rh _ fun w hw => hz w (by simp [hw])
  exact this _ _ bg
theorem JB {x : List Nd} {d : Nd} (hk : l6 x) (hd : ∀ z ∈ d.kids, 0 <= z /\ z < (x.length : Int)) : l6 (x ++ [d]) := by
 intro i e hi
 by_cases h : i < x.length
 ·rw [B8 h] at hi; exact hk i e hi
 ·rw [FF (by omega)] at hi
  have : i = x.length := by
   have := (rn.1 hi).1
   simp only [List.length_singleton] at this; omega
  subst this;simp only [Nat.sub_self, List.getElem?_cons_zero, bj] at hi;subst hi; exact hd
theorem ML (h : TI l st) {d : Nd} (hp : ∃ t ∈ l, d.pos = (t.pos : Int)) (hd : st.fe = 0 -> ∀ z ∈ d.kids, 0 <= z /\ z < (st.tree.length : Int)) : TI l (st.put d) /\ ((st.put d).fe = 0 -> st.fe = 0 /\ (st.put d).tree = st.tree ++ [d] /\ st.iI d = (st.tree.length : Int)) := by
 unfold RS.put RS.iI RS.pQ;by_cases h2 : 200 < oq st.high d.kids
 ·rw [if_pos h2, if_neg (ey (by decide))]
  exact ⟨h.fail (by decide) hp, fun q => absurd q (ey (by decide))⟩
 ·rw [if_neg h2]
  by_cases jh : st.fe = 0
  ·rw [if_pos jh, if_pos jh]
   refine ⟨⟨fun _ => ?_, fun q => absurd jh q⟩, fun _ => ⟨jh, rfl, rfl⟩⟩
   have hk := hd jh
   have ht := h.t jh
   have BU := JB ht.lt hk
   refine ⟨BU, ?_, ?_⟩
   ·show (st.high ++ [_]).length = (st.tree ++ [d]).length
    rw [kL, kL, ht.hl]; rfl
   ·intro i hi
    show (st.high ++ [_])[i]? = some (gQ (st.tree ++ [d]) i)
    have hi : i < (st.tree ++ [d]).length := hi
    rw [kL, List.length_singleton] at hi;by_cases h' : i < st.tree.length
    ·rw [B8 (by rw [ht.hl]; exact h'), ht.hh i h', GN BU i h']
    ·have : i = st.tree.length := by omega
     subst this;rw [FF (by rw [ht.hl]; exact eX _), ht.hl, Nat.sub_self, List.getElem?_cons_zero, u9 BU (d := d) (by rw [FF (eX _), Nat.sub_self]; rfl)]
     congr 1
     unfold oq;have : ∀ (ks : List Int) (a : Nat), (∀ z ∈ ks, 0 <= z /\ z < (st.tree.length : Int)) -> ks.foldl (Nl st.high) a = ks.foldl (fun h x => max h (1 + gQ (st.tree ++ [d]) x.toNat)) a := by
      intro ks
      induction ks with
      | nil => intro _ _; rfl
      | cons z ks Rh =>
       intro a hz
       have hz0 := hz z (by simp)
       rw [List.foldl_cons, List.foldl_cons, Rh _ fun w hw => hz w (by simp [hw])]
       congr 1
       unfold Nl;have e1 := ht.hh z.toNat (by omega)
       rw [if_pos (by rw [ht.hl]; omega), List.getD_eq_getElem?_getD, e1, Option.getD_some, GN BU _ (by omega), Nat.add_comm]
     exact this _ _ hk
  ·rw [if_neg jh]
   exact ⟨h, fun q => absurd q jh⟩
end
end
section
def gU.ins : gU -> List Int
 | .lk _ _ left => [left] | .mW left => [left] | .mn out => out | _ => []
def gU.len (s1 : RS) (r : List Int) : gU -> Prop
 | .args => s1.fe = 0 -> r.length <= 8
 | .mn _ => s1.fe = 0 -> r.length <= 8
 | _ => r.length = 1
def xl (st : RS) (xs : List Int) : Prop := st.fe = 0 -> ∀ x ∈ xs, 0 <= x /\ x < (st.tree.length : Int)
section
variable {l : List Tok} {st st' s1 K3 s2 : RS} {ins mid r r' : List Int}
theorem iL.val (h : iL l ins st s1 r) (hi : xl st ins) : xl s1 r := by
 intro q x hx
 obtain ⟨h0, new, hn, _, hc⟩ := h.ok q
 have h1 := hc x
 have h2 : 0 < r.count x := List.count_pos_iff.2 hx
 have hlen : s1.tree.length = st.tree.length + new.length := by rw [hn, kL]
 by_cases h3 : x ∈ ins
 ·have := hi h0 x h3; omega
 ·rw [List.count_eq_zero_of_not_mem h3] at h1
  unfold JJ at h1
  split at h1
  ·omega
  ·omega
theorem iL.refl (h : TI l st) : iL l ins st st ins := ⟨h, fun q => ⟨q, [], by simp, by simp, fun a => by rw [Kh, JI]; omega⟩⟩
theorem iL.bad (h : TI l s1) (h0 : s1.fe ≠ 0) : iL l ins st s1 r := ⟨h, fun q => absurd q h0⟩
theorem iL.trans (h : iL l ins st s1 mid) (h' : iL l mid s1 s2 r) : iL l ins st s2 r := by
 refine ⟨h'.inv, fun q => ?_⟩
 obtain ⟨h1, n2, e2, d2, c2⟩ := h'.ok q
 obtain ⟨h0, n1, e1, d1, c1⟩ := h.ok h1
 refine ⟨h0, n1 ++ n2, by rw [e2, e1, List.append_assoc], fun d hd => (uD.1 hd).elim (d1 d) (d2 d), fun a => ?_⟩
 have := c1 a; have := c2 a
 have l1 : s1.tree.length = st.tree.length + n1.length := by rw [e1, kL]
 have l2 : s2.tree.length = s1.tree.length + n2.length := by rw [e2, kL]
 rw [Af, rQ (b := s1.tree.length) (by omega) (by omega)];omega
theorem iL.Bc (h : iL l ins st s1 r) (hi : TI l K3) (h0 : st.fe = 0 -> st'.fe = 0 /\ st'.tree = st.tree) (h2 : K3.fe = 0 -> s1.fe = 0 /\ K3.tree = s1.tree /\ r' = r) : iL l ins st' K3 r' := by
 refine ⟨hi, fun q => ?_⟩
 obtain ⟨q1, q2, rfl⟩ := h2 q
 obtain ⟨p0, n1, e1, d1, c1⟩ := h.ok q1
 obtain ⟨p1, p2⟩ := h0 p0
 exact ⟨p1, n1, by rw [q2, p2, e1], d1, fun a => by rw [q2, p2]; exact c1 a⟩
theorem iL.put {extra : List Int} {d : Nd} (h : iL l ins st s1 r) (hi : xl st ins) (hp : ∃ t ∈ l, d.pos = (t.pos : Int)) (hd : s1.fe = 0 -> So l d) (hk : ∀ a, d.kids.count a = extra.count a + r.count a) (hx : xl st extra) : iL l (extra ++ ins) st (s1.put d) [s1.iI d] := by
 have hv := h.val hi
 obtain ⟨g1, g2⟩ := ML (st := s1) h.inv hp fun q => fun z hz => by
  have h2 : 0 < d.kids.count z := List.count_pos_iff.2 hz
  rw [hk z] at h2;obtain ⟨h0, new, hn, _, _⟩ := h.ok q
  have hlen : s1.tree.length = st.tree.length + new.length := by rw [hn, kL]
  by_cases h3 : z ∈ extra
  ·have := hx h0 z h3; omega
  ·rw [List.count_eq_zero_of_not_mem h3] at h2
   exact hv q z (List.count_pos_iff.1 (by omega))
 refine ⟨g1, fun q => ?_⟩
 obtain ⟨p0, p1, p2⟩ := g2 q
 obtain ⟨h0, new, hn, dn, hc⟩ := h.ok p0
 have hlen : s1.tree.length = st.tree.length + new.length := by rw [hn, kL]
 refine ⟨h0, new ++ [d], by rw [p1, hn, List.append_assoc], fun e he => (uD.1 he).elim (dn e) (fun w => by rw [yl.1 w]; exact hd p0), fun a => ?_⟩
 rw [Af, Kg, hk, p2, List.count_append, p1, kL, List.length_singleton, rQ (b := s1.tree.length) (by omega) (by omega), HU];have := hc a
 omega
end
theorem xC {l : List Tok} {kind n : Int} {kids : List Int} {s : cm} {t : Tok} (ht : t ∈ l) (h1 : kC kind) (h2 : kind ∈ te ↔ s ≠ []) (h3 : s ≠ [] -> nC s) (h4 : if kind = 1 then 0 <= n else if kind = 2 then n = 0 \/ n = 1 else if kind = 5 then 1 <= n /\ n <= 16 else if kind = 24 \/ kind = 25 then 1 <= n /\ n <= 3 else n = 0) (h5 : if kind = 5 \/ kind = 8 then kids.length = 2 else if kind = 6 \/ kind = 7 \/ kind = 9 \/ kind = 10 then kids.length = 1 else if kind = 11 then kids.length <= 8 else kids.length = 0) : So l (nd kind kids n s (t.pos : Int)) := by
 refine ⟨⟨?_, fun q => q.2 (h3 q.1), h4⟩, h1, ⟨t, ht, rfl⟩, h5⟩
 rintro ((q | q) | q)
 ·have := h1.1; have := h1.2; simp only [nd] at q; omega
 ·simp only [nd] at q; omega
 ·exact q h2
theorem QA {s : cm} (h : (mL s).2 ≠ 0) : 1 <= (mL s).2 /\ (mL s).2 <= 16 := by
 have := MQ s; omega
end
section
theorem bind_some {α β : Type} {x : Option α} {f : α -> Option β} {b : β} (h : x.bind f = some b) : ∃ a, x = some a /\ f a = some b := by
 cases x with
 | none => cases h
 | some a => exact ⟨a, rfl, h⟩
theorem js {r : List Int} (h : r.length = 1) : ∃ x, r = [x] := by
 match r, h with
 | [x], _ => exact ⟨x, rfl⟩
theorem xl.nil {st : RS} : xl st [] := fun _ _ h => by cases h
theorem RL {l : List Tok} (hl : 0 < l.length) (hg : ∀ t ∈ l, t.kind = 1 -> t.text ≠ [] /\ nC t.text) : ∀ (k : Nat) (c : gU) (st s1 : RS) (r : List Int), jz l k c st = some (s1, r) -> TI l st -> xl st c.ins -> c.may -> iL l c.ins st s1 r /\ c.len s1 r := by
 intro k
 induction k with
 | zero => intro c st s1 r h; cases h
 | succ k ih =>
  intro c st s1 r h hT hI hm
  have pS := lP (st := st) hl
  have dD : ∃ t ∈ l, ((st.now l).pos : Int) = (t.pos : Int) := ⟨_, pS, rfl⟩
  cases c with
  | expr =>
   simp only [jz] at h;obtain ⟨⟨s2, r2⟩, h1, h2⟩ := bind_some h
   simp only [bj, eQ] at h2;obtain ⟨rfl, rfl⟩ := h2
   obtain ⟨p, n⟩ := ih _ _ _ _ h1 hT xl.nil trivial
   refine ⟨p.Bc p.inv (fun q => ⟨q, rfl⟩) fun q => ⟨q, rfl, if_pos q⟩, ?_⟩
   show List.length _ = 1
   split
   ·exact n
   ·rfl
  | mg least =>
   simp only [jz] at h;obtain ⟨⟨s2, r2⟩, h1, h2⟩ := bind_some h
   obtain ⟨p, n⟩ := ih _ _ _ _ h1 hT xl.nil trivial
   obtain ⟨x, rfl⟩ := js n
   simp only [List.headD_cons] at h2;obtain ⟨p2, n2⟩ := ih _ _ _ _ h2 p.inv (p.val xl.nil) trivial
   exact ⟨p.trans p2, n2⟩
  | lk least nX left =>
   simp only [jz] at h
   split at h
   ·rename_i hc
    obtain ⟨⟨s2, r2⟩, h1, h2⟩ := bind_some h
    obtain ⟨p, n⟩ := ih _ _ _ _ h1 hT.next xl.nil trivial
    obtain ⟨x, rfl⟩ := js n
    simp only [List.headD_cons] at h2;have p1 : iL l [] st s2 [x] := p.Bc p.inv (fun q => ⟨q, rfl⟩) fun q => ⟨q, rfl, rfl⟩
    have o := QA (s := (st.now l).text) (by have := hc.2; omega)
    have p2 := p1.put (extra := [left]) (d := nd 5 [left, x] (mL (st.now l).text).2 [] (st.now l).pos) xl.nil dD (fun _ => xC pS ⟨by decide, by decide⟩ (by decide) (fun q => absurd rfl q) o rfl) (fun a => by simp only [nd, List.count_cons, List.count_nil]; omega) hI
    rw [List.append_nil] at p2;obtain ⟨p3, n3⟩ := ih _ _ _ _ h2 p2.inv (p2.val hI) trivial
    exact ⟨p2.trans p3, n3⟩
   ·simp only [bj, eQ] at h
    obtain ⟨rfl, rfl⟩ := h
    exact ⟨iL.refl hT, rfl⟩
  | front =>
   simp only [jz] at h;have one : ∀ (kind : Int), kind = 6 \/ kind = 7 -> (if (st.next.open (st.now l).pos).fe = 0 then (jz l k .front (st.next.open (st.now l).pos)).bind fun (s1, r) => some (s1.close.put (nd kind r 0 [] (st.now l).pos), [s1.close.iI (nd kind r 0 [] (st.now l).pos)]) else some (st.next.open (st.now l).pos, [-1])) = some (s1, r) -> iL l [] st s1 r /\ r.length = 1 := by
    intro kind RA h
    split at h
    ·rename_i hf
     obtain ⟨⟨s2, r2⟩, h1, h2⟩ := bind_some h
     simp only [bj, eQ] at h2;obtain ⟨rfl, rfl⟩ := h2
     obtain ⟨p, n⟩ := ih _ _ _ _ h1 (hT.next.open dD) xl.nil trivial
     obtain ⟨x, rfl⟩ := js n
     have p1 : iL l [] st s2.close [x] := p.Bc p.inv.close (fun q => by obtain ⟨a, b⟩ := CC q; exact ⟨a, b.symm⟩) fun q => ⟨q, rfl, rfl⟩
     have p2 := p1.put (extra := []) (d := nd kind [x] 0 [] (st.now l).pos) xl.nil dD (fun _ => by
      rcases RA with rfl | rfl <;> exact xC pS ⟨by decide, by decide⟩ (by decide) (fun q => absurd rfl q) rfl rfl) (fun a => by simp only [nd, List.count_nil]; omega) xl.nil
     exact ⟨p2, rfl⟩
    ·rename_i hf
     simp only [bj, eQ] at h;obtain ⟨rfl, rfl⟩ := h
     exact ⟨iL.bad (hT.next.open dD) hf, rfl⟩
   split at h
   ·exact one 6 (.inl rfl) h
   ·split at h
    ·exact one 7 (.inr rfl) h
    ·obtain ⟨⟨s2, r2⟩, h1, h2⟩ := bind_some h
     obtain ⟨p, n⟩ := ih _ _ _ _ h1 hT xl.nil trivial
     obtain ⟨x, rfl⟩ := js n
     simp only [List.headD_cons] at h2;obtain ⟨p2, n2⟩ := ih _ _ _ _ h2 p.inv (p.val xl.nil) trivial
     exact ⟨p.trans p2, n2⟩
  | atom =>
   simp only [jz] at h;have p0 : iL l [] st st.next [] := (iL.refl hT).Bc hT.next (fun q => ⟨q, rfl⟩) fun q => ⟨q, rfl, rfl⟩
   have leaf : ∀ (kind n : Int) (s : cm), So l (nd kind [] n s (st.now l).pos) -> some (st.next.put (nd kind [] n s (st.now l).pos), [st.next.iI (nd kind [] n s (st.now l).pos)]) = some (s1, r) -> iL l [] st s1 r /\ r.length = 1 := by
    intro kind n s hn h
    simp only [bj, eQ] at h;obtain ⟨rfl, rfl⟩ := h
    exact ⟨p0.put (extra := []) xl.nil dD (fun _ => hn) (fun a => by simp only [nd, List.count_nil]) xl.nil, rfl⟩
   have Xi : ∀ kind : Int, kind = 9 \/ kind = 10 -> ((jz l k (.inner [40] [41]) st.next).bind fun (s1, r) => some (s1.put (nd kind r 0 [] (st.now l).pos), [s1.iI (nd kind r 0 [] (st.now l).pos)])) = some (s1, r) -> iL l [] st s1 r /\ r.length = 1 := by
    intro kind RA h
    obtain ⟨⟨s2, r2⟩, h1, h2⟩ := bind_some h
    simp only [bj, eQ] at h2;obtain ⟨rfl, rfl⟩ := h2
    obtain ⟨p, n⟩ := ih _ _ _ _ h1 hT.next xl.nil trivial
    obtain ⟨x, rfl⟩ := js n
    have p1 : iL l [] st s2 [x] := p.Bc p.inv (fun q => ⟨q, rfl⟩) fun q => ⟨q, rfl, rfl⟩
    exact ⟨p1.put (extra := []) (d := nd kind [x] 0 [] (st.now l).pos) xl.nil dD (fun _ => by
     rcases RA with rfl | rfl <;> exact xC pS ⟨by decide, by decide⟩ (by decide) (fun q => absurd rfl q) rfl rfl) (fun a => by simp only [nd, List.count_nil]; omega) xl.nil, rfl⟩
   split at h
   ·rename_i hf
    simp only [bj, eQ] at h;obtain ⟨rfl, rfl⟩ := h
    exact ⟨iL.bad hT hf, rfl⟩
   ·split at h
    ·obtain ⟨p, n⟩ := ih _ _ _ _ h hT xl.nil trivial
     exact ⟨p, n⟩
    ·split at h
     ·exact leaf 1 _ [] (xC pS ⟨by decide, by decide⟩ (by decide) (fun q => absurd rfl q) (Int.natCast_nonneg _) rfl) h
     ·split at h
      ·rename_i KF
       obtain ⟨t1, t2⟩ := hg _ pS KF
       split at h
       ·obtain ⟨⟨s2, r2⟩, h1, h2⟩ := bind_some h
        simp only [bj, eQ] at h2;obtain ⟨rfl, rfl⟩ := h2
        obtain ⟨p, n⟩ := ih _ _ _ _ h1 hT.next xl.nil trivial
        have p1 : iL l [] st s2 r2 := p.Bc p.inv (fun q => ⟨q, rfl⟩) fun q => ⟨q, rfl, rfl⟩
        exact ⟨p1.put (extra := []) (d := nd 11 r2 0 (st.now l).text (st.now l).pos) xl.nil dD (fun q => xC pS ⟨by decide, by decide⟩ ⟨fun _ => t1, fun _ => by decide⟩ (fun _ => t2) rfl (n q)) (fun a => by simp only [nd, List.count_nil]; omega) xl.nil, rfl⟩
       ·exact leaf 4 0 _ (xC pS ⟨by decide, by decide⟩ ⟨fun _ => t1, fun _ => by decide⟩ (fun _ => t2) rfl rfl) h
      ·split at h
       ·exact leaf 2 1 [] (xC pS ⟨by decide, by decide⟩ (by decide) (fun q => absurd rfl q) (.inr rfl) rfl) h
       ·split at h
        ·exact leaf 2 0 [] (xC pS ⟨by decide, by decide⟩ (by decide) (fun q => absurd rfl q) (.inl rfl) rfl) h
        ·split at h
         ·exact leaf 3 0 [] (xC pS ⟨by decide, by decide⟩ (by decide) (fun q => absurd rfl q) rfl rfl) h
         ·split at h
          ·exact Xi 9 (.inl rfl) h
          ·split at h
           ·exact Xi 10 (.inr rfl) h
           ·simp only [bj, eQ] at h
            obtain ⟨rfl, rfl⟩ := h
            exact ⟨iL.bad (hT.fail (by decide) dD) (ey (by decide)), rfl⟩
  | mW left =>
   simp only [jz] at h
   split at h
   ·obtain ⟨⟨s2, r2⟩, h1, h2⟩ := bind_some h
    obtain ⟨p, n⟩ := ih _ _ _ _ h1 hT xl.nil trivial
    obtain ⟨x, rfl⟩ := js n
    have p2 := iL.put (extra := [left]) (d := nd 8 [left, x] 0 [] (st.now l).pos) p xl.nil dD (fun _ => xC pS ⟨by decide, by decide⟩ (by decide) (fun q => absurd rfl q) rfl rfl) (fun a => by simp only [nd, List.count_cons, List.count_nil]; omega) hI
    have p2 : iL l [left] st _ _ := p2
    obtain ⟨p3, n3⟩ := ih _ _ _ _ h2 p2.inv (p2.val hI) trivial
    exact ⟨p2.trans p3, n3⟩
   ·simp only [bj, eQ] at h
    obtain ⟨rfl, rfl⟩ := h
    exact ⟨iL.refl hT, rfl⟩
  | inner a z =>
   simp only [jz] at h
   split at h
   ·split at h
    ·obtain ⟨⟨s2, r2⟩, h1, h2⟩ := bind_some h
     simp only [bj, eQ] at h2;obtain ⟨rfl, rfl⟩ := h2
     obtain ⟨p, n⟩ := ih _ _ _ _ h1 (hT.next.open dD) xl.nil trivial
     refine ⟨p.Bc (p.inv.want hl).close (fun q => by obtain ⟨a, b⟩ := CC q; exact ⟨a, b.symm⟩) fun q => ?_, ?_⟩
     ·obtain ⟨a1, a2⟩ := jN (s := z) (st := s2) (l := l) q
      exact ⟨a1, a2, if_pos q⟩
     ·show List.length _ = 1
      split
      ·exact n
      ·rfl
    ·rename_i hf
     simp only [bj, eQ] at h;obtain ⟨rfl, rfl⟩ := h
     exact ⟨iL.bad (hT.next.open dD) hf, rfl⟩
   ·simp only [bj, eQ] at h
    obtain ⟨rfl, rfl⟩ := h
    exact ⟨iL.bad (hT.fail (by decide) dD) (ey (by decide)), rfl⟩
  | args =>
   simp only [jz] at h
   split at h
   ·split at h
    ·obtain ⟨⟨s2, r2⟩, h1, h2⟩ := bind_some h
     simp only [bj, eQ] at h2;obtain ⟨rfl, rfl⟩ := h2
     have key : iL l [] (st.next.open (st.now l).pos) s2 r2 /\ (s2.fe = 0 -> r2.length <= 8) := by
      split at h1
      ·simp only [bj, eQ] at h1
       obtain ⟨rfl, rfl⟩ := h1
       exact ⟨iL.refl (hT.next.open dD), fun _ => kW _⟩
      ·exact ih _ _ _ _ h1 (hT.next.open dD) xl.nil (kW _)
     obtain ⟨p, n⟩ := key
     refine ⟨p.Bc (p.inv.want hl).close (fun q => by obtain ⟨a, b⟩ := CC q; exact ⟨a, b.symm⟩) fun q => ?_, fun q => ?_⟩
     ·obtain ⟨a1, a2⟩ := jN (s := [41]) (st := s2) (l := l) q
      exact ⟨a1, a2, rfl⟩
     ·exact n (jN (s := [41]) (st := s2) (l := l) q).1
    ·rename_i hf
     simp only [bj, eQ] at h;obtain ⟨rfl, rfl⟩ := h
     exact ⟨iL.bad (hT.next.open dD) hf, fun _ => kW _⟩
   ·simp only [bj, eQ] at h
    obtain ⟨rfl, rfl⟩ := h
    exact ⟨iL.bad (hT.fail (by decide) dD) (ey (by decide)), fun _ => kW _⟩
  | mn out =>
   simp only [jz] at h;have hm : out.length <= 8 := hm
   have t0 : TI l (if out.length = 8 then st.fail 3 (st.now l).pos else st) := by
    split
    ·exact hT.fail (by decide) dD
    ·exact hT
   have f0 : (if out.length = 8 then st.fail 3 (st.now l).pos else st).fe = 0 -> out.length < 8 /\ (if out.length = 8 then st.fail 3 (st.now l).pos else st) = st := by
    split
    ·exact fun q => absurd q (ey (by decide))
    ·exact fun _ => ⟨by omega, rfl⟩
   generalize (if out.length = 8 then st.fail 3 (st.now l).pos else st) = s0 at *
   obtain ⟨⟨s2, r2⟩, h1, h2⟩ := bind_some h
   obtain ⟨p, n⟩ := ih _ _ _ _ h1 t0 xl.nil trivial
   obtain ⟨x, rfl⟩ := js n
   have p1 : iL l out st s2 (out ++ [x]) := ⟨p.inv, fun q => by
    obtain ⟨a0, new, a1, d1, a2⟩ := p.ok q
    obtain ⟨b0, rfl⟩ := f0 a0
    exact ⟨a0, new, a1, d1, fun a => by have := a2 a; simp only [gU.ins, List.count_nil] at this; rw [List.count_append]; omega⟩⟩
   have bg : s2.fe = 0 -> out.length < 8 := fun q => by
    obtain ⟨a0, _⟩ := p.ok q
    exact (f0 a0).1
   simp only at h2
   split at h2
   ·rename_i hc
    have p2 : iL l out st s2.next (out ++ [x]) := p1.Bc p1.inv.next (fun q => ⟨q, rfl⟩) fun q => ⟨q, rfl, rfl⟩
    obtain ⟨p3, n3⟩ := ih _ _ _ _ h2 p2.inv (p2.val hI) (by show (out ++ [x]).length <= 8; rw [kL]; exact bg hc.1)
    exact ⟨p2.trans p3, n3⟩
   ·simp only [bj, eQ] at h2
    obtain ⟨rfl, rfl⟩ := h2
    exact ⟨p1, fun q => by rw [kL]; exact bg q⟩
end
end Go.Proofs.YtdiccmapankckaaDoor.Ev
