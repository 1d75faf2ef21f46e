/- EvLoop, EvIx, EvA0, EvU, PLx, WNm, WTree1, WTree2, WTree3, PExpr3, PExpr4, PExpr5, PPa, PPt1, PPt2, PPt3. -/
import Derived.Test.YtdiccmapankckaaDoorMf
set_option linter.unusedSimpArgs false
set_option linter.unusedVariables false
set_option linter.unusedSectionVars false
set_option linter.defProp false
set_option maxRecDepth 20000
set_option maxHeartbeats 8000000
namespace Go.Proofs.YtdiccmapankckaaDoor.Ev
open Go
section
def Fl {σ : Type} (I : σ -> Fr -> Mem -> Prop) (lt : σ -> Prop) (Q : Out -> Prop) (o : Option Out) : Prop := match o with
 | some (.norm fr m) => ∃ s, lt s /\ I s fr m
 | some o => Q o
 | none => False
theorem iE {T : Nat -> Option iq} {c : aE} {σ : Type} (I : σ -> Fr -> Mem -> Prop) (μ : σ -> Nat) (Q : Out -> Prop) (h : ∀ s fr m, I s fr m -> Fl I (fun s' => μ s' < μ s) Q (exec T c fr m)) : ∀ s fr m, I s fr m -> ∃ o, exec T (.loop c) fr m = some o /\ Q o := by
 intro s
 generalize hn : μ s = n
 induction n using Nat.strongRecOn generalizing s with
 | _ n ih =>
  intro fr m hI
  have hw := h s fr m hI
  rw [eB]
  cases he : exec T c fr m with
  | none => rw [he] at hw; exact hw.elim
  | some o =>
   rw [he] at hw
   cases o with
   | norm fX m1 => obtain ⟨s1, h1, h2⟩ := hw; exact ih (μ s1) (by omega) s1 rfl fX m1 h2
   | exit id fX m1 => exact ⟨_, rfl, hw⟩
   | ret fX m1 => exact ⟨_, rfl, hw⟩
   | gI v fX m1 => exact ⟨_, rfl, hw⟩
section
variable {σ : Type} {I : σ -> Fr -> Mem -> Prop} {lt : σ -> Prop} {Q : Out -> Prop}
theorem uU {p : Prop} {a b : Option Out} (h1 : p -> Fl I lt Q a) (h2 : ¬ p -> Fl I lt Q b) : Fl I lt Q (iF p a b) := by
 by_cases h : p
 ·rw [AQ h]; exact h1 h
 ·rw [AR h]; exact h2 h
theorem eR {fr : Fr} {m : Mem} (s : σ) (h : lt s) (hI : I s fr m) : Fl I lt Q (some (.norm fr m)) := ⟨s, h, hI⟩
theorem eS {id : Nat} {fr : Fr} {m : Mem} (h : Q (.exit id fr m)) : Fl I lt Q (some (.exit id fr m)) := h
theorem mC {fr : Fr} {m : Mem} (h : Q (.ret fr m)) : Fl I lt Q (some (.ret fr m)) := h
end
theorem iD {T : Nat -> Option iq} {c : aE} {fr : Fr} {m : Mem} {X : Option Out} (hX : exec T (.loop c) fr m = X) {Q : Out -> Prop} (h : ∃ o, exec T (.loop c) fr m = some o /\ Q o) : ∃ o, X = some o /\ Q o := by
 rw [hX] at h; exact h
def YI (e esz len : Nat) (o : Option (List EV)) (m : Mem) : Option R1 := match o with
 | some cs => some (.val (.slice (nb m.next 0) 0 len (some len)) (ext m [.cells cs esz e false]))
 | none => none
@[congr] theorem W7 {e esz len : Nat} {o o' : Option (List EV)} {m : Mem} (h : o = o') : YI e esz len o m = YI e esz len o' m := by rw [h]
theorem fJ {e esz len : Nat} {cs : List EV} {m : Mem} : YI e esz len (some cs) m = some (.val (.slice (nb m.next 0) 0 len (some len)) (ext m [.cells cs esz e false])) := rfl
theorem cq {ρ : aW -> EV} {m : Mem} {e esz len : Nat} {zero : List EV} {parts : List (Nat × aW)} : aB ρ (.bt e esz len zero parts) m = YI e esz len (fB (eD len zero) (parts.map fun p => (p.1 * esz, esz, ρ p.2))) m := by
 simp only [aB, YI]
 cases fB (eD len zero) (parts.map fun p => (p.1 * esz, esz, ρ p.2)) <;> rfl
def UM (call : Call) (n : Nat) (F : au) (eQ : List EV) : Option EV := match dz call n F eQ bH with
 | some (.ret v m) => lY m v
 | _ => none
theorem Bk {T : Nat -> Option iq} {K : Nat -> Nat} {f : Nat} {F : au} [h : cf T f F] {eQ : List EV} {V : EV} (n : Nat) (hb : ∀ call : Call, UM call n F eQ = some V) : cR T K f eQ = some V := by
 rw [Ef h.has];have hb := hb (aT (UT T K) n)
 unfold UM at hb
 cases he : dz (aT (UT T K) n) n F eQ bH with
 | none => rw [he] at hb; cases hb
 | some fin =>
  rw [he] at hb
  cases fin with
  | gI v m => cases hb
  | ret v m =>
   refine Af he ?_
   have BQ : po (cB 7 m) m v = some V := hb
   show jd (cB 7 m) m [v] = some [V]
   simp only [jd, BQ]
theorem jF.po {m : Mem} {v : EV} {els : List (List EV)} {n e lo : Nat} (h : jF m v els.flatten n e lo) (hn : els.length = n) (hl : ∀ el ∈ els, el.length = e) (hp : ∀ el ∈ els, jv el = true) : ∃ nl, lY m v = some (row nl 0 e els) := by
 rcases h.is with ⟨rfl, rfl, h3⟩ | ⟨b, cap, t, rfl, h1, h2, h3, h4⟩
 ·have : els = [] := List.eq_nil_of_length_eq_zero hn
  subst this;exact ⟨true, rfl⟩
 ·subst hn
  refine ⟨false, ?_⟩
  rw [pn h3 hl hp (by rcases h4 with rfl | rfl <;> simp [Ac])]
  simp [row]
theorem jF.NE {m : Mem} {v : EV} {els : List (List EV)} {n e lo : Nat} (h : jF m v els.flatten n e lo) (hn : els.length = n) (h0 : 0 < n) (hl : ∀ el ∈ els, el.length = e) (hp : ∀ el ∈ els, jv el = true) : lY m v = some (.fz 0 e els) := by
 rcases h.is with ⟨rfl, rfl, h3⟩ | ⟨b, cap, t, rfl, h1, h2, h3, h4⟩
 ·omega
 ·subst hn
  exact pn h3 hl hp (by rcases h4 with rfl | rfl <;> simp [Ac])
theorem TP {p q : Prop} (h : p ↔ q) : some (bo p) = some (bo q) := congrArg some (TQ h)
theorem aI {a b : Prop} (x : a) (y : b) : a /\ b := And.intro x y
def G5 := aI @lS <| aI @nC <| aI @uN <| aI @uO <| aI @o0 <| aI @zG <| aI @eval_const <| aI @wo <| aI @wq <| aI @yU <| aI @sA <| aI @vI <| aI @sC <| aI @vG <| aI @sD <| aI @tc <| aI @wA <| aI @td <| aI @Hg <| aI @Hh <| aI @yK <| aI @v9 <| aI @yL <| aI (@eq_self.{1}) <| aI @Cp <| aI @Co <| aI @Cw <| aI @Cu <| aI @Cy <| aI @DH <| aI @Dy <| aI @DB <| aI @DA <| aI @Dz <| aI @DG <| aI @Iu <| aI @Dx <| aI @tZ <| aI @DC <| aI @DD <| aI @DE <| aI @DF <| aI @qP <| aI @qN <| aI @qO <| aI @qM <| aI @eq_int <| aI @Ha <| aI @Il <| (@vd)
def G4 := aI @nE <| aI @rW <| aI @ve <| aI @rX <| aI @pu <| aI @tA <| aI @uP <| aI @rB <| aI @mw <| aI (@Option.map_some.{0,0}) <| aI (@Option.map_none.{0,0}) <| aI (@List.map_cons.{0,0}) <| aI (@List.map_nil.{0,0}) <| aI @w9 <| aI @na <| aI @gL <| aI @fT <| aI @CP <| aI @zn <| aI @N0 <| aI @vF <| aI @vE <| aI @zq <| aI @CW <| aI @CX <| aI @CQ <| aI @CR <| aI @zu <| aI @Dc <| aI @Dd <| aI @C6 <| aI @C7 <| aI @wm <| aI @qe <| aI @oM <| aI (@List.nil_append.{0}) <| aI (@List.append_nil.{0}) <| aI (@List.cons_append.{0}) <| aI @tG <| aI @yO <| aI @Cr <| aI @we <| aI @yN <| aI @Hr <| aI @Hs <| aI @vz <| aI @H9 <| aI @H8 <| aI @yq <| (@za)
def G3 := aI @yp <| aI @yr <| aI @Cq <| aI @not_true_eq_false <| aI @not_false_eq_true <| aI @and_true <| aI @true_and <| aI @and_false <| aI @false_and <| aI @or_true <| aI @true_or <| aI @or_false <| aI @false_or <| aI @Classical.not_not <| aI @Bool.false_bne <| aI @Bool.true_bne <| aI @Bool.false_xor <| aI @Bool.true_xor <| aI @zI <| aI @tK <| aI @wJ <| aI @tD <| aI @tH <| aI @zN <| aI @Dj <| aI @Di <| aI @wM <| aI @tI <| aI @wI <| aI @oz <| aI @tE <| aI @tF <| aI @tJ <| aI @zL <| aI @mX <| aI @qA <| aI @qB <| aI @qv <| aI @qu <| aI @qD <| aI @qx <| aI @ow <| aI @oA <| aI @qw <| aI @qy <| aI @zM <| aI @zK <| aI @zJ <| aI @qE <| (@wL)
def G0 := aI @TL <| aI @TM <| aI @Nn <| aI @Np <| aI @Nq <| aI @Nr <| aI @CS <| aI @CT <| aI @CU <| aI @CV <| aI @Nx <| aI @Ny <| aI @Nz <| aI @NA <| aI @C8 <| aI @C9 <| aI @Da <| aI @Db <| aI @sW <| aI @sX <| aI @wa <| aI @wb <| aI @Dq <| aI @Dr <| aI @Dm <| aI @Dp <| aI @NJ <| aI @NU <| aI @NK <| aI @NS <| aI @yg <| aI @yh <| aI @D9 <| aI @Ea <| aI @u9 <| aI @decide_true <| aI @decide_false <| aI @Bool.not_true <| aI @Bool.not_false <| aI (@cond_true.{1}) <| aI (@cond_false.{1}) <| aI @Int.cast_ofNat_Int <| aI @Hy <| aI @Dh <| aI @eV <| aI @aK <| aI @cg <| aI @bJ <| aI @az <| (@aL)
def GZ := aI @aM <| aI @qp <| aI @wx <| aI @wC <| aI @wh <| aI @wg <| aI @sE <| aI @yy <| aI @ye <| aI @vv <| aI @oZ <| aI @p6 <| aI @ni <| aI @wZ <| aI @tX <| aI @Ab <| aI @wV <| aI @oH <| aI @wX <| aI @lU <| aI @qJ <| aI @oI <| aI @wY <| aI @m6 <| aI @tV <| aI @lV <| aI @qK <| aI @w7 <| aI @rU <| aI @rV <| aI @pt <| aI @wN <| aI @w8 <| aI @qF <| aI @qt <| aI @gA <| aI @bu <| aI @yG <| aI @wz <| aI @MT <| aI @HB <| aI @MV <| aI @Ia <| aI @Dl <| aI @zP <| aI @wP <| aI @xc <| aI @ub <| aI @Iy <| (@Iz)
def GY := aI @Ah <| aI @yJ <| aI @yM <| aI (@List.length_cons.{0}) <| aI (@List.length_nil.{0}) <| aI @Nat.zero_add <| aI @Nat.add_zero <| aI (@List.take_succ_cons.{0}) <| aI (@List.take_zero.{0}) <| aI (@List.take_nil.{0}) <| aI (@List.drop_succ_cons.{0}) <| aI (@List.drop_zero.{0}) <| aI (@List.drop_nil.{0}) <| aI (@List.getElem?_cons_zero.{0}) <| aI (@List.getElem?_cons_succ.{0}) <| aI (@List.getElem?_nil.{0}) <| aI (@Option.getD_some.{0}) <| aI (@List.set_cons_zero.{0}) <| aI (@List.set_cons_succ.{0}) <| aI @fy <| aI (@ne_eq.{1}) <| aI @Bool.or_true <| aI @Bool.or_false <| aI @Bool.true_or <| aI @Bool.false_or <| aI @Bool.and_true <| aI @Bool.true_and <| aI @Bool.and_false <| aI @Bool.false_and <| aI @NN <| aI @NP <| aI @NQ <| aI @NL <| aI @NO <| aI @Dn <| aI @oB <| aI @oC <| (@vq)
def zz6 := aI @Ca <| aI @vV <| aI @Cg <| aI @vU <| aI @sO <| aI @vM <| aI @vP <| aI @Ch <| aI @Hf <| aI @He <| aI @vR <| aI @yB <| aI @vQ <| aI @pW <| aI @vN <| aI @yz <| aI @vO <| aI @vT <| aI @Ce <| aI @vS <| aI @oh <| aI @sK <| aI @sL <| aI @sG <| aI @sF <| aI @sM <| aI @sI <| aI @pV <| aI @pX <| aI @Cd <| aI @sH <| aI @sJ <| aI @Cf <| aI @Cc <| aI @Cb <| aI @sP <| aI @yC <| aI @yA <| aI @sN <| aI @pZ <| aI @oi <| aI @pY <| aI @tz <| aI @zR <| aI @sB <| aI @jO <| aI @A3 <| aI @A2 <| aI @vH <| (@Dw)
def zz7 := aI @z8 <| aI @yD <| aI @vX <| aI @yP <| aI @wi <| aI @vL <| aI @ng <| aI @CB <| aI @uR <| aI @CC <| aI @uS <| aI @rZ <| aI @wR <| aI @zQ <| aI @Ds <| aI @sa <| aI @wS <| aI @yI <| aI @Dv <| aI @Du <| aI @zW <| aI @zV <| aI @zU <| aI @zT <| aI @tN <| aI @tM <| aI @C4 <| aI @C5 <| aI @Ns <| aI @Nt <| aI @Nu <| aI @Nw <| aI @zt <| aI @CY <| aI @CZ <| aI @C0 <| aI @C1 <| aI @C2 <| aI @C3 <| aI @vD <| aI @B6 <| aI @yn <| aI @yk <| aI @pQ <| aI @yl <| aI @mO <| aI @su <| aI @pR <| aI @ym <| (@od)
def zz8 := aI @mP <| aI @sr <| aI @yo <| aI @ss <| aI @sx <| aI @vC <| aI @vB <| aI @sm <| aI @CL <| aI @zf <| aI @CA <| aI @yT <| aI @Nat.beq_refl <| aI @wK <| aI @y9 <| aI @tb <| aI @CG <| aI @y8 <| aI @wj <| aI @qC <| aI @ou <| aI @rL <| aI @tj <| aI @zb <| aI @wy <| aI @rl <| aI @sQ <| aI @Aa <| aI @wW <| aI @tW <| aI @NT <| aI @NR <| aI @NM <| aI @sZ <| aI @tP <| aI @zB <| aI @wG <| aI @tu <| aI @wF <| aI @Df <| aI @zy <| aI @zw <| aI @mV <| aI @qq <| aI @mW <| aI @zz <| aI @zx <| aI @zA <| aI @tw <| (@tR)
def zz9 := aI @qG <| aI @oE <| aI @wT <| aI @tS <| aI @qH <| aI @wU <| aI @tQ <| aI @kK <| aI @tT <| aI @oF <| aI @pU <| aI @og <| aI @B8 <| aI @yv <| aI @yw <| aI @vK <| aI @B9 <| aI @yu <| aI @mQ <| aI @yx <| aI @yR <| aI @yQ <| aI @tY <| aI @Hl <| aI @Hk <| aI @zC <| aI @H3 <| aI @Am <| aI @xe <| aI @DJ <| aI @Al <| aI @An <| aI @ud <| aI @wH <| aI @tx <| aI @Bool.and_self <| aI (@List.getElem?_map.{0,0}) <| aI (@List.length_map.{0,0}) <| aI @pz <| aI @vY <| aI @sR <| aI @sS <| aI @vZ <| aI @rn <| aI @yE <| (@List.isEmpty_nil.{0})
def aq := aI @u9 <| aI @D9 <| aI @Ea <| aI @o0 <| aI @lS <| aI @nC <| aI @uN <| (@uO)
def ax := aI G5 <| aI G4 <| aI G3 <| aI G0 <| aI GZ <| aI GY <| aI zz6 <| aI zz7 <| aI zz8 <| (zz9)
end
section
def BX : List EV -> Option EV
 | [.str s, .str [c]] => some (.int .i64 (Go.Lib.indexByte s c))
 | _ => none
instance : cf T dy cz := ⟨rfl⟩
instance : cf T eZ aH := ⟨rfl⟩
theorem S6 {m : Mem} {s : List UInt8} {c : UInt8} : run T eZ [.str s, .int .u8 (c.toNat : Int)] m = some (.ret (.int .i64 (Go.Lib.indexByte s c)) m) := by
 rw [MC (by simp [aH])]
 have h : ∀ m : Mem, run T gy [.str s, .int .u8 (c.toNat : Int)] m = some (.ret (.int .i64 (Go.Lib.indexByte s c)) m) := fun m => by
  rw [Hm (g := gr) rfl];simp [gr]
 simp +contextual -implicitDefEqProofs (maxSteps := 1000000) (maxDischargeDepth := 8) only [aH, h, ab, lS, nC, uN, uO, o0, zG, eval_const, wo, wq, yU, sA, vI, sC, vG, sD, tc, wA, td, Hg, Hh, yK, v9, yL, eq_self, Cp, Co, Cw, Cu, Cy, DH, Dy, DB, DA, Dz, DG, Iu, Dx, tZ, DC, DD, DE, DF, qP, qN, qO, qM, eq_int, Ha, Il, vd, nE, rW, ve, rX, pu, tA, uP, rB, mw, Option.map_some, Option.map_none, List.map_cons, List.map_nil, w9, na, gL, fT, CP, zn, N0, vF, vE, zq, CW, CX, CQ, CR, zu, Dc, Dd, C6, C7, wm, qe, oM, List.nil_append, List.append_nil, List.cons_append, tG, yO, Cr, we, yN, Hr, Hs, vz, H9, H8, yq, za, yp, yr, Cq, not_true_eq_false, not_false_eq_true, and_true, true_and, and_false, false_and, or_true, true_or, or_false, false_or, Classical.not_not, Bool.false_bne, Bool.true_bne, Bool.false_xor, Bool.true_xor, zI, tK, wJ, tD, tH, zN, Dj, Di, wM, tI, wI, oz, tE, tF, tJ, zL, mX, qA, qB, qv, qu, qD, qx, ow, oA, qw, qy, zM, zK, zJ, qE, wL, TL, TM, Nn, Np, Nq, Nr, CS, CT, CU, CV, Nx, Ny, Nz, NA, C8, C9, Da, Db, sW, sX, wa, wb, Dq, Dr, Dm, Dp, NJ, NU, NK, NS, yg, yh, D9, Ea, u9, decide_true, decide_false, Bool.not_true, Bool.not_false, cond_true, cond_false, implies_true, Int.cast_ofNat_Int, Hy, Dh, eV, aK, cg, bJ, az, aL, aM, qp, wx, wC, wh, wg, sE, yy, ye, vv, oZ, p6, ni, wZ, tX, Ab, wV, oH, wX, lU, qJ, oI, wY, m6, tV, lV, qK, w7, rU, rV, pt, wN, w8, qF, qt, gA, bu, yG, wz, MT, HB, MV, Ia, Dl, zP, wP, xc, ub, Iy, Iz, Ah, yJ, yM, List.length_cons, List.length_nil, Nat.zero_add, Nat.add_zero, List.take_succ_cons, List.take_zero, List.take_nil, List.drop_succ_cons, List.drop_zero, List.drop_nil, List.getElem?_cons_zero, List.getElem?_cons_succ, List.getElem?_nil, Option.getD_some, List.set_cons_zero, List.set_cons_succ, fy, ne_eq, Bool.or_true, Bool.or_false, Bool.true_or, Bool.false_or, Bool.and_true, Bool.true_and, Bool.and_false, Bool.false_and, NN, NP, NQ, NL, NO, Dn, oB, oC, vq, Ca, vV, Cg, vU, sO, vM, vP, Ch, Hf, He, vR, yB, vQ, pW, vN, yz, vO, vT, Ce, vS, oh, sK, sL, sG, sF, sM, sI, pV, pX, Cd, sH, sJ, Cf, Cc, Cb, sP, yC, yA, sN, pZ, oi, pY, tz, zR, sB, jO, A3, A2, vH, Dw, z8, yD, vX, yP, wi, vL, ng, CB, uR, CC, uS, rZ, wR, zQ, Ds, sa, wS, yI, Dv, Du, zW, zV, zU, zT, tN, tM, C4, C5, Ns, Nt, Nu, Nw, zt, CY, CZ, C0, C1, C2, C3, vD, B6, yn, yk, pQ, yl, mO, su, pR, ym, od, mP, sr, yo, ss, sx, vC, vB, sm, CL, zf, CA, yT, Nat.beq_refl, wK, y9, tb, CG, y8, wj, qC, ou, rL, tj, zb, wy, rl, sQ, Aa, wW, tW, NT, NR, NM, sZ, tP, zB, wG, tu, wF, Df, zy, zw, mV, qq, mW, zz, zx, zA, tw, tR, qG, oE, wT, tS, qH, wU, tQ, kK, tT, oF, pU, og, B8, yv, yw, vK, B9, yu, mQ, yx, yR, yQ, tY, Hl, Hk, zC, H3, Am, xe, DJ, Al, An, ud, wH, tx, Bool.and_self, List.getElem?_map, List.length_map, pz, vY, sR, sS, vZ, rn, yE, Option.map_none, List.isEmpty_nil, simprocAttr]
theorem S8 {m : Mem} {s : List UInt8} {c : UInt8} : run T dy [.str s, .str [c]] m = some (.ret (.int .i64 (Go.Lib.indexByte s c)) m) := by
 rw [MC (by simp [cz])]
 generalize hL : exec T (aE.loop ik) = L
 have hi : idx 1 (.int .i64 0) = some 0 := rfl
 by_cases hs : [c] = s
 ·simp +contextual -implicitDefEqProofs (maxSteps := 1000000) (maxDischargeDepth := 8) only [cz, hs, hi, ab, lS, nC, uN, uO, o0, zG, eval_const, wo, wq, yU, sA, vI, sC, vG, sD, tc, wA, td, Hg, Hh, yK, v9, yL, eq_self, Cp, Co, Cw, Cu, Cy, DH, Dy, DB, DA, Dz, DG, Iu, Dx, tZ, DC, DD, DE, DF, qP, qN, qO, qM, eq_int, Ha, Il, vd, nE, rW, ve, rX, pu, tA, uP, rB, mw, Option.map_some, Option.map_none, List.map_cons, List.map_nil, w9, na, gL, fT, CP, zn, N0, vF, vE, zq, CW, CX, CQ, CR, zu, Dc, Dd, C6, C7, wm, qe, oM, List.nil_append, List.append_nil, List.cons_append, tG, yO, Cr, we, yN, Hr, Hs, vz, H9, H8, yq, za, yp, yr, Cq, not_true_eq_false, not_false_eq_true, and_true, true_and, and_false, false_and, or_true, true_or, or_false, false_or, Classical.not_not, Bool.false_bne, Bool.true_bne, Bool.false_xor, Bool.true_xor, zI, tK, wJ, tD, tH, zN, Dj, Di, wM, tI, wI, oz, tE, tF, tJ, zL, mX, qA, qB, qv, qu, qD, qx, ow, oA, qw, qy, zM, zK, zJ, qE, wL, TL, TM, Nn, Np, Nq, Nr, CS, CT, CU, CV, Nx, Ny, Nz, NA, C8, C9, Da, Db, sW, sX, wa, wb, Dq, Dr, Dm, Dp, NJ, NU, NK, NS, yg, yh, D9, Ea, u9, decide_true, decide_false, Bool.not_true, Bool.not_false, cond_true, cond_false, implies_true, Int.cast_ofNat_Int, Hy, Dh, eV, aK, cg, bJ, az, aL, aM, qp, wx, wC, wh, wg, sE, yy, ye, vv, oZ, p6, ni, wZ, tX, Ab, wV, oH, wX, lU, qJ, oI, wY, m6, tV, lV, qK, w7, rU, rV, pt, wN, w8, qF, qt, gA, bu, yG, wz, MT, HB, MV, Ia, Dl, zP, wP, xc, ub, Iy, Iz, Ah, yJ, yM, List.length_cons, List.length_nil, Nat.zero_add, Nat.add_zero, List.take_succ_cons, List.take_zero, List.take_nil, List.drop_succ_cons, List.drop_zero, List.drop_nil, List.getElem?_cons_zero, List.getElem?_cons_succ, List.getElem?_nil, Option.getD_some, List.set_cons_zero, List.set_cons_succ, fy, ne_eq, Bool.or_true, Bool.or_false, Bool.true_or, Bool.false_or, Bool.and_true, Bool.true_and, Bool.and_false, Bool.false_and, NN, NP, NQ, NL, NO, Dn, oB, oC, vq, Ca, vV, Cg, vU, sO, vM, vP, Ch, Hf, He, vR, yB, vQ, pW, vN, yz, vO, vT, Ce, vS, oh, sK, sL, sG, sF, sM, sI, pV, pX, Cd, sH, sJ, Cf, Cc, Cb, sP, yC, yA, sN, pZ, oi, pY, tz, zR, sB, jO, A3, A2, vH, Dw, z8, yD, vX, yP, wi, vL, ng, CB, uR, CC, uS, rZ, wR, zQ, Ds, sa, wS, yI, Dv, Du, zW, zV, zU, zT, tN, tM, C4, C5, Ns, Nt, Nu, Nw, zt, CY, CZ, C0, C1, C2, C3, vD, B6, yn, yk, pQ, yl, mO, su, pR, ym, od, mP, sr, yo, ss, sx, vC, vB, sm, CL, zf, CA, yT, Nat.beq_refl, wK, y9, tb, CG, y8, wj, qC, ou, rL, tj, zb, wy, rl, sQ, Aa, wW, tW, NT, NR, NM, sZ, tP, zB, wG, tu, wF, Df, zy, zw, mV, qq, mW, zz, zx, zA, tw, tR, qG, oE, wT, tS, qH, wU, tQ, kK, tT, oF, pU, og, B8, yv, yw, vK, B9, yu, mQ, yx, yR, yQ, tY, Hl, Hk, zC, H3, Am, xe, DJ, Al, An, ud, wH, tx, Bool.and_self, List.getElem?_map, List.length_map, pz, vY, sR, sS, vZ, rn, yE, Option.map_none, List.isEmpty_nil, simprocAttr]
  rw [<- hs];simp [Go.Lib.indexByte]
 ·simp +contextual -implicitDefEqProofs (maxSteps := 1000000) (maxDischargeDepth := 8) only [cz, hs, hi, S6, ab, lS, nC, uN, uO, o0, zG, eval_const, wo, wq, yU, sA, vI, sC, vG, sD, tc, wA, td, Hg, Hh, yK, v9, yL, eq_self, Cp, Co, Cw, Cu, Cy, DH, Dy, DB, DA, Dz, DG, Iu, Dx, tZ, DC, DD, DE, DF, qP, qN, qO, qM, eq_int, Ha, Il, vd, nE, rW, ve, rX, pu, tA, uP, rB, mw, Option.map_some, Option.map_none, List.map_cons, List.map_nil, w9, na, gL, fT, CP, zn, N0, vF, vE, zq, CW, CX, CQ, CR, zu, Dc, Dd, C6, C7, wm, qe, oM, List.nil_append, List.append_nil, List.cons_append, tG, yO, Cr, we, yN, Hr, Hs, vz, H9, H8, yq, za, yp, yr, Cq, not_true_eq_false, not_false_eq_true, and_true, true_and, and_false, false_and, or_true, true_or, or_false, false_or, Classical.not_not, Bool.false_bne, Bool.true_bne, Bool.false_xor, Bool.true_xor, zI, tK, wJ, tD, tH, zN, Dj, Di, wM, tI, wI, oz, tE, tF, tJ, zL, mX, qA, qB, qv, qu, qD, qx, ow, oA, qw, qy, zM, zK, zJ, qE, wL, TL, TM, Nn, Np, Nq, Nr, CS, CT, CU, CV, Nx, Ny, Nz, NA, C8, C9, Da, Db, sW, sX, wa, wb, Dq, Dr, Dm, Dp, NJ, NU, NK, NS, yg, yh, D9, Ea, u9, decide_true, decide_false, Bool.not_true, Bool.not_false, cond_true, cond_false, implies_true, Int.cast_ofNat_Int, Hy, Dh, eV, aK, cg, bJ, az, aL, aM, qp, wx, wC, wh, wg, sE, yy, ye, vv, oZ, p6, ni, wZ, tX, Ab, wV, oH, wX, lU, qJ, oI, wY, m6, tV, lV, qK, w7, rU, rV, pt, wN, w8, qF, qt, gA, bu, yG, wz, MT, HB, MV, Ia, Dl, zP, wP, xc, ub, Iy, Iz, Ah, yJ, yM, List.length_cons, List.length_nil, Nat.zero_add, Nat.add_zero, List.take_succ_cons, List.take_zero, List.take_nil, List.drop_succ_cons, List.drop_zero, List.drop_nil, List.getElem?_cons_zero, List.getElem?_cons_succ, List.getElem?_nil, Option.getD_some, List.set_cons_zero, List.set_cons_succ, fy, ne_eq, Bool.or_true, Bool.or_false, Bool.true_or, Bool.false_or, Bool.and_true, Bool.true_and, Bool.and_false, Bool.false_and, NN, NP, NQ, NL, NO, Dn, oB, oC, vq, Ca, vV, Cg, vU, sO, vM, vP, Ch, Hf, He, vR, yB, vQ, pW, vN, yz, vO, vT, Ce, vS, oh, sK, sL, sG, sF, sM, sI, pV, pX, Cd, sH, sJ, Cf, Cc, Cb, sP, yC, yA, sN, pZ, oi, pY, tz, zR, sB, jO, A3, A2, vH, Dw, z8, yD, vX, yP, wi, vL, ng, CB, uR, CC, uS, rZ, wR, zQ, Ds, sa, wS, yI, Dv, Du, zW, zV, zU, zT, tN, tM, C4, C5, Ns, Nt, Nu, Nw, zt, CY, CZ, C0, C1, C2, C3, vD, B6, yn, yk, pQ, yl, mO, su, pR, ym, od, mP, sr, yo, ss, sx, vC, vB, sm, CL, zf, CA, yT, Nat.beq_refl, wK, y9, tb, CG, y8, wj, qC, ou, rL, tj, zb, wy, rl, sQ, Aa, wW, tW, NT, NR, NM, sZ, tP, zB, wG, tu, wF, Df, zy, zw, mV, qq, mW, zz, zx, zA, tw, tR, qG, oE, wT, tS, qH, wU, tQ, kK, tT, oF, pU, og, B8, yv, yw, vK, B9, yu, mQ, yx, yR, yQ, tY, Hl, Hk, zC, H3, Am, xe, DJ, Al, An, ud, wH, tx, Bool.and_self, List.getElem?_map, List.length_map, pz, vY, sR, sS, vZ, rn, yE, Option.map_none, List.isEmpty_nil, simprocAttr]
theorem S9 : gZ T dy (.pure BX) := by
 intro θ m m' args ay v hg ha h
 unfold BX at h
 split at h
 ·cases h
  rename_i s c
  have : ay = [.str s, .str [c]] := ha.flat rfl
  subst this;exact ⟨θ, _, S8, .ret (.int _ _) hg, .refl _ _ _⟩
 ·cases h
end
section
def A0 : Nat -> Option iq := up A00 dy (.pure BX)
theorem UH : ∀ f e, A0 f = some e -> gZ T f e := KL Wi S9
end
section
theorem UR : isTrue (aT A0 5000 8 [] bH) = true := by kernel_rfl
def A1 : Nat -> Option iq := up A0 8 (.pure Mw)
theorem YB : ∀ f e, A1 f = some e -> gZ T f e := KL UH (Oc UH (F1 := lz) rfl UR)
def K (f : Nat) : Nat := bif Vi f [5, 10, 11, 22, 23, 24, 25, 26, 36, 37, 38, 39, 40, 41, 42, 43, 44, 45, 46, 47, 48, 49, 50, 55, 61, 62, 63, 64, 65, 68, 70, 71, 72, 75, 76, 94, 95, 99, 101] then 1 else bif Vi f [6, 9, 12, 66, 67] then 2 else 0
abbrev B0 : Nat -> Option iq := A1
theorem YA : ∀ f e, B0 f = some e -> gZ T f e := YB
noncomputable def B1 : Nat -> Option iq := up B0 15 (.spec (kC B0 bl))
theorem Yz : ∀ f e, B1 f = some e -> gZ T f e := uF YA (F1 := bl) rfl
noncomputable def B2 : Nat -> Option iq := up B1 29 (.spec (kC B1 bq))
theorem Yy : ∀ f e, B2 f = some e -> gZ T f e := uF Yz (F1 := bq) rfl
noncomputable def B3 : Nat -> Option iq := up B2 16 (.spec (kC B2 cA))
theorem Yx : ∀ f e, B3 f = some e -> gZ T f e := uF Yy (F1 := cA) rfl
noncomputable def B4 : Nat -> Option iq := up B3 20 (.spec (kC B3 bm))
theorem Yw : ∀ f e, B4 f = some e -> gZ T f e := uF Yx (F1 := bm) rfl
noncomputable def B5 : Nat -> Option iq := up B4 14 (.spec (kC B4 bB))
theorem Yv : ∀ f e, B5 f = some e -> gZ T f e := uF Yw (F1 := bB) rfl
noncomputable abbrev B : Nat -> Option iq := B5
theorem aco : ∀ f e, B f = some e -> gZ T f e := Yv
noncomputable abbrev U : Nat -> Option iq := UT B K
instance : cf B5 5 cC := ⟨rfl⟩
instance : eW K 5 := ⟨rfl⟩
instance : cf B5 6 eY := ⟨rfl⟩
instance : GW K 6 := ⟨rfl⟩
instance : cf B5 9 fZ := ⟨rfl⟩
instance : GW K 9 := ⟨rfl⟩
instance : cf B5 10 ju := ⟨rfl⟩
instance : eW K 10 := ⟨rfl⟩
instance : cf B5 11 dA := ⟨rfl⟩
instance : eW K 11 := ⟨rfl⟩
instance : cf B5 12 gb := ⟨rfl⟩
instance : GW K 12 := ⟨rfl⟩
instance : cf B5 13 jW := ⟨rfl⟩
instance : dw K 13 := ⟨rfl⟩
instance : dw K 14 := ⟨rfl⟩
instance : dw K 15 := ⟨rfl⟩
instance : dw K 16 := ⟨rfl⟩
instance : cf B5 17 dv := ⟨rfl⟩
instance : dw K 17 := ⟨rfl⟩
instance : cf B5 18 cu := ⟨rfl⟩
instance : dw K 18 := ⟨rfl⟩
instance : cf B5 19 ez := ⟨rfl⟩
instance : dw K 19 := ⟨rfl⟩
instance : dw K 20 := ⟨rfl⟩
instance : cf B5 21 ee := ⟨rfl⟩
instance : dw K 21 := ⟨rfl⟩
instance : cf B5 22 lu := ⟨rfl⟩
instance : eW K 22 := ⟨rfl⟩
instance : cf B5 23 mJ := ⟨rfl⟩
instance : eW K 23 := ⟨rfl⟩
instance : cf B5 24 jU := ⟨rfl⟩
instance : eW K 24 := ⟨rfl⟩
instance : cf B5 25 j7 := ⟨rfl⟩
instance : eW K 25 := ⟨rfl⟩
instance : cf B5 26 fo := ⟨rfl⟩
instance : eW K 26 := ⟨rfl⟩
instance : cf B5 27 bj := ⟨rfl⟩
instance : dw K 27 := ⟨rfl⟩
instance : cf B5 28 ey := ⟨rfl⟩
instance : dw K 28 := ⟨rfl⟩
instance : dw K 29 := ⟨rfl⟩
instance : cf B5 30 dm := ⟨rfl⟩
instance : dw K 30 := ⟨rfl⟩
instance : cf B5 31 cJ := ⟨rfl⟩
instance : dw K 31 := ⟨rfl⟩
instance : cf B5 32 bU := ⟨rfl⟩
instance : dw K 32 := ⟨rfl⟩
instance : cf B5 33 dF := ⟨rfl⟩
instance : dw K 33 := ⟨rfl⟩
instance : cf B5 34 da := ⟨rfl⟩
instance : dw K 34 := ⟨rfl⟩
instance : cf B5 35 ct := ⟨rfl⟩
instance : dw K 35 := ⟨rfl⟩
instance : cf B5 36 oS := ⟨rfl⟩
instance : eW K 36 := ⟨rfl⟩
instance : cf B5 37 mI := ⟨rfl⟩
instance : eW K 37 := ⟨rfl⟩
instance : cf B5 38 j6 := ⟨rfl⟩
instance : eW K 38 := ⟨rfl⟩
instance : cf B5 39 lA := ⟨rfl⟩
instance : eW K 39 := ⟨rfl⟩
instance : cf B5 40 mH := ⟨rfl⟩
instance : eW K 40 := ⟨rfl⟩
instance : cf B5 41 mL := ⟨rfl⟩
instance : eW K 41 := ⟨rfl⟩
instance : cf B5 42 iU := ⟨rfl⟩
instance : eW K 42 := ⟨rfl⟩
instance : cf B5 43 iT := ⟨rfl⟩
instance : eW K 43 := ⟨rfl⟩
instance : cf B5 44 gU := ⟨rfl⟩
instance : eW K 44 := ⟨rfl⟩
instance : cf B5 45 gW := ⟨rfl⟩
instance : eW K 45 := ⟨rfl⟩
instance : cf B5 46 jT := ⟨rfl⟩
instance : eW K 46 := ⟨rfl⟩
instance : cf B5 47 jS := ⟨rfl⟩
instance : eW K 47 := ⟨rfl⟩
instance : cf B5 48 gY := ⟨rfl⟩
instance : eW K 48 := ⟨rfl⟩
instance : cf B5 49 ly := ⟨rfl⟩
instance : eW K 49 := ⟨rfl⟩
instance : cf B5 50 gl := ⟨rfl⟩
instance : eW K 50 := ⟨rfl⟩
instance : cf B5 51 cH := ⟨rfl⟩
instance : dw K 51 := ⟨rfl⟩
instance : cf B5 52 db := ⟨rfl⟩
instance : dw K 52 := ⟨rfl⟩
instance : cf B5 53 bT := ⟨rfl⟩
instance : dw K 53 := ⟨rfl⟩
instance : cf B5 54 dc := ⟨rfl⟩
instance : dw K 54 := ⟨rfl⟩
instance : cf B5 55 dD := ⟨rfl⟩
instance : eW K 55 := ⟨rfl⟩
instance : cf B5 56 dq := ⟨rfl⟩
instance : dw K 56 := ⟨rfl⟩
instance : cf B5 57 ed := ⟨rfl⟩
instance : dw K 57 := ⟨rfl⟩
instance : cf B5 58 dr := ⟨rfl⟩
instance : dw K 58 := ⟨rfl⟩
instance : cf B5 59 cb := ⟨rfl⟩
instance : dw K 59 := ⟨rfl⟩
instance : cf B5 60 dK := ⟨rfl⟩
instance : dw K 60 := ⟨rfl⟩
instance : cf B5 61 lp := ⟨rfl⟩
instance : eW K 61 := ⟨rfl⟩
instance : cf B5 62 mN := ⟨rfl⟩
instance : eW K 62 := ⟨rfl⟩
instance : cf B5 63 lq := ⟨rfl⟩
instance : eW K 63 := ⟨rfl⟩
instance : cf B5 64 oT := ⟨rfl⟩
instance : eW K 64 := ⟨rfl⟩
instance : cf B5 65 mK := ⟨rfl⟩
instance : eW K 65 := ⟨rfl⟩
instance : cf B5 66 lr := ⟨rfl⟩
instance : GW K 66 := ⟨rfl⟩
instance : cf B5 67 lx := ⟨rfl⟩
instance : GW K 67 := ⟨rfl⟩
instance : cf B5 68 dC := ⟨rfl⟩
instance : eW K 68 := ⟨rfl⟩
instance : cf B5 69 cM := ⟨rfl⟩
instance : dw K 69 := ⟨rfl⟩
instance : cf B5 70 bp := ⟨rfl⟩
instance : eW K 70 := ⟨rfl⟩
instance : cf B5 71 pE := ⟨rfl⟩
instance : eW K 71 := ⟨rfl⟩
instance : cf B5 72 aQ := ⟨rfl⟩
instance : eW K 72 := ⟨rfl⟩
instance : cf B5 73 gp := ⟨rfl⟩
instance : dw K 73 := ⟨rfl⟩
instance : cf B5 74 c8 := ⟨rfl⟩
instance : dw K 74 := ⟨rfl⟩
instance : cf B5 75 mM := ⟨rfl⟩
instance : eW K 75 := ⟨rfl⟩
instance : cf B5 76 aH := ⟨rfl⟩
instance : eW K 76 := ⟨rfl⟩
instance : cf B5 77 dW := ⟨rfl⟩
instance : dw K 77 := ⟨rfl⟩
instance : cf B5 79 ca := ⟨rfl⟩
instance : dw K 79 := ⟨rfl⟩
instance : cf B5 80 dX := ⟨rfl⟩
instance : dw K 80 := ⟨rfl⟩
instance : cf B5 81 dE := ⟨rfl⟩
instance : dw K 81 := ⟨rfl⟩
instance : cf B5 82 c7 := ⟨rfl⟩
instance : dw K 82 := ⟨rfl⟩
instance : cf B5 83 c9 := ⟨rfl⟩
instance : dw K 83 := ⟨rfl⟩
instance : cf B5 84 fm := ⟨rfl⟩
instance : dw K 84 := ⟨rfl⟩
instance : cf B5 85 dY := ⟨rfl⟩
instance : dw K 85 := ⟨rfl⟩
instance : cf B5 86 fi := ⟨rfl⟩
instance : dw K 86 := ⟨rfl⟩
instance : cf B5 87 fh := ⟨rfl⟩
instance : dw K 87 := ⟨rfl⟩
instance : cf B5 88 ef := ⟨rfl⟩
instance : dw K 88 := ⟨rfl⟩
instance : cf B5 89 fg := ⟨rfl⟩
instance : dw K 89 := ⟨rfl⟩
instance : cf B5 90 eg := ⟨rfl⟩
instance : dw K 90 := ⟨rfl⟩
instance : cf B5 91 dJ := ⟨rfl⟩
instance : dw K 91 := ⟨rfl⟩
instance : cf B5 94 cU := ⟨rfl⟩
instance : eW K 94 := ⟨rfl⟩
instance : cf B5 95 bg := ⟨rfl⟩
instance : eW K 95 := ⟨rfl⟩
instance : cf B5 96 cL := ⟨rfl⟩
instance : dw K 96 := ⟨rfl⟩
instance : cf B5 97 dH := ⟨rfl⟩
instance : dw K 97 := ⟨rfl⟩
instance : cf B5 98 cw := ⟨rfl⟩
instance : dw K 98 := ⟨rfl⟩
instance : cf B5 99 bF := ⟨rfl⟩
instance : eW K 99 := ⟨rfl⟩
instance : cf B5 100 dG := ⟨rfl⟩
instance : dw K 100 := ⟨rfl⟩
instance : cf B5 101 jV := ⟨rfl⟩
instance : eW K 101 := ⟨rfl⟩
instance : cf B5 102 dI := ⟨rfl⟩
instance : dw K 102 := ⟨rfl⟩
instance : cf B5 103 bR := ⟨rfl⟩
instance : dw K 103 := ⟨rfl⟩
theorem lM {args : List EV} {m : Mem} : run U 15 args m = kC B0 bl args m := Ee (h := ⟨rfl⟩) rfl
theorem rI {args : List EV} {m : Mem} : run B2 15 args m = kC B0 bl args m := ru rfl
theorem mc {args : List EV} {m : Mem} : run U 29 args m = kC B1 bq args m := Ee (h := ⟨rfl⟩) rfl
theorem s9 {args : List EV} {m : Mem} : run B2 29 args m = kC B1 bq args m := ru rfl
theorem xi {args : List EV} {m : Mem} : run U 16 args m = kC B2 cA args m := Ee (h := ⟨rfl⟩) rfl
theorem lN {args : List EV} {m : Mem} : run U 20 args m = kC B3 bm args m := Ee (h := ⟨rfl⟩) rfl
theorem rH {args : List EV} {m : Mem} : run B4 20 args m = kC B3 bm args m := ru rfl
theorem s6 {args : List EV} {m : Mem} : run U 14 args m = kC B4 bB args m := Ee (h := ⟨rfl⟩) rfl
theorem K5 {m : Mem} : run U 8 [] m = some (.ret (.bool true) m) := Qk (f := 8) (by unfold U UT PT; rfl)
end
section
theorem cQ {i : Nat} (h : i < 9223372036854775807) : IntKind.i64.wrap ((i : Int) + 1) = ((i + 1 : Nat) : Int) := by rw [wrap_i64 (by omega) (by omega)]; omega
theorem drop_cons {α : Type} {s : List α} {i : Nat} (h : i < s.length) : s.drop i = s[i] :: s.drop (i + 1) := List.drop_eq_getElem_cons h
theorem kH (p : Int -> Prop) [DecidablePred p] : ∀ s : bK, lead p s <= s.length
 | [] => fy _
 | c :: s => by
  have := kH p s
  unfold lead; split <;> simp only [List.length_cons] <;> omega
theorem wB (p : Int -> Prop) [DecidablePred p] : ∀ s : bK, ∀ c ∈ s.take (lead p s), p (cI c)
 | [], c, h => by simp at h
 | d :: s, c, h => by
  unfold lead at h
  split at h
  ·rename_i hd
   rw [Nat.add_comm, List.take_succ_cons, oU] at h;rcases h with rfl | h
   ·exact hd
   ·exact wB p s c h
  ·simp at h
theorem rf : ∀ s : bK, bG s <= s.length
 | [] => fy _
 | c :: s => by
  simp only [bG];have := kH (fun n => bX n \/ aN n) s
  split <;> simp only [List.length_cons] <;> omega
theorem yF {s : bK} (h : 0 < s.length) : eC s <= s.length := by
 unfold eC
 split
 ·rename_i q; exact q.1
 ·split <;> omega
def Tok.cells (t : Tok) : List EV := [.int .i64 (t.kind : Int), .str t.text, .int .i64 (t.n : Int), .int .i64 (t.pos : Int)]
theorem mS {s : bK} {p : Nat} (dx : 0 < s.length) : ki s p = if aN (cI s[0]) then BJ (s.take (lead aN s)) p else (if 0 < bG s /\ s.take (bG s) ∈ iw then .ok ⟨3, s.take (bG s), 0, p⟩
  else if 32 < bG s then .bad 3 p
  else if 0 < bG s then .ok ⟨1, s.take (bG s), 0, p⟩
  else if eC s = 0 then .bad 6 p
  else .ok ⟨4, s.take (eC s), 0, p⟩) := by
 have Ap : s[0]? = some s[0] := nc dx
 unfold ki;simp only [Ap, Option.mem_def, bf, exists_eq_left']
def jD (l : List Tok) : List (List EV) := l.map Tok.cells
theorem AA (l : List Tok) (t : Tok) : (jD (l ++ [t])).flatten = (jD l).flatten ++ t.cells := by simp [jD]
theorem IU (l : List Tok) : ∀ el ∈ jD l, el.length = 4 := by
 intro el h; obtain ⟨t, _, rfl⟩ := List.mem_map.1 h; rfl
theorem DU (l : List Tok) : ∀ el ∈ jD l, jv el = true := by
 intro el h; obtain ⟨t, _, rfl⟩ := List.mem_map.1 h; rfl
theorem D7 : ∀ (s : bK) (r : Bool), bA r s <= s.length
 | [], _ => fy _
 | c :: s, r => by
  have := D7 s (if cI c = 10 then false else if cI c = 35 then true else r)
  simp only [bA];generalize (if cI c = 10 then false else if cI c = 35 then true else r) = r1 at this ⊢
  simp only [List.length_cons]
  split <;> omega
theorem lF {s : bK} {p : Nat} {t : Tok} (hs : 0 < s.length) (h : ki s p = .ok t) : 0 < t.text.length /\ t.text.length <= s.length /\ t.pos = p /\ t.text = s.take t.text.length := by
 have Ap : s[0]? = some s[0] := nc hs
 have hl := kH aN s
 have hw := rf s
 have hg := yF hs
 unfold ki at h;simp only [Ap, Option.mem_def, bf, exists_eq_left'] at h;have tk : ∀ k, k <= s.length -> (s.take k).length = k := fun k hk => by rw [List.length_take]; omega
 split at h
 ·rename_i hd
  have h1 : 0 < lead aN s := by
   have := drop_cons hs
   rw [List.drop_zero] at this;rw [this, lead, if_pos hd]; omega
  unfold BJ at h
  split at h
  ·cases h; rw [tk _ hl]; exact ⟨h1, hl, rfl, rfl⟩
  ·cases h
 ·split at h
  ·rename_i q; cases h; rw [tk _ hw]; exact ⟨q.1, hw, rfl, rfl⟩
  ·split at h
   ·cases h
   ·split at h
    ·rename_i q; cases h; rw [tk _ hw]; exact ⟨q, hw, rfl, rfl⟩
    ·split at h
     ·cases h
     ·rename_i q; cases h; rw [tk _ hg]; exact ⟨by omega, hg, rfl, rfl⟩
theorem Ei {s : bK} {p e q : Nat} (hs : 0 < s.length) (h : ki s p = .bad e q) : q = p /\ 0 < e := by
 rw [mS hs] at h;by_cases h1 : aN (cI s[0])
 ·rw [if_pos h1] at h
  unfold BJ at h
  cases hn : qV 0 (s.take (lead aN s)) <;> rw [hn] at h <;> cases h
  exact ⟨rfl, by decide⟩
 ·rw [if_neg h1] at h
  by_cases h2 : 0 < bG s /\ s.take (bG s) ∈ iw
  ·rw [if_pos h2] at h; cases h
  ·rw [if_neg h2] at h
   by_cases h3 : 32 < bG s
   ·rw [if_pos h3] at h; cases h; exact ⟨rfl, by decide⟩
   ·rw [if_neg h3] at h
    by_cases h4 : 0 < bG s
    ·rw [if_pos h4] at h; cases h
    ·rw [if_neg h4] at h
     by_cases h5 : eC s = 0
     ·rw [if_pos h5] at h; cases h; exact ⟨rfl, by decide⟩
     ·rw [if_neg h5] at h; cases h
def BM : Ar (List Tok) -> EV
 | .ok l => .tuple [.fz 0 4 (jD l), .agg [.int .i64 0, .int .i64 0]]
 | .bad e p => .tuple [.ae, .agg [.int .i64 (e : Int), .int .i64 (p : Int)]]
theorem Ar.map_map {α β γ : Type} (f : α -> β) (g : β -> γ) (x : Ar α) : (x.map f).map g = x.map (fun a => g (f a)) := by cases x <;> rfl
theorem Od {s : bK} (h0 : 0 < bG s) (h1 : bG s <= 32) (h2 : s.take (bG s) ∉ iw) : s.take (bG s) ≠ [] /\ rE (s.take (bG s)) := by
 have hl := rf s
 have hlen : (s.take (bG s)).length = bG s := by rw [List.length_take]; omega
 refine ⟨fun q => by rw [q] at hlen; simp at hlen; omega, ?_, by omega, by omega, h2⟩
 intro i c hi
 cases s with
 | nil => simp at hi
 | cons a s =>
  have hw : bG (a :: s) = if bX (cI a) then 1 + lead (fun n => bX n \/ aN n) s else 0 := rfl
  rw [hw] at hi h0
  split at h0
  ·rename_i ha
   rw [if_pos ha, Nat.add_comm, List.take_succ_cons] at hi
   cases i with
   | zero =>
    simp only [List.getElem?_cons_zero, bf] at hi;subst hi; exact .inl ha
   | succ i =>
    rw [List.getElem?_cons_succ] at hi;have := wB (fun n => bX n \/ aN n) s c (List.mem_of_getElem? hi)
    exact this.elim .inl fun q => .inr ⟨Nat.succ_ne_zero i, q⟩
  ·omega
theorem OK {s : bK} {p : Nat} {t : Tok} (hs : 0 < s.length) (h : ki s p = .ok t) (hk : t.kind = 1) : t.text ≠ [] /\ rE t.text := by
 rw [mS hs] at h;by_cases h1 : aN (cI s[0])
 ·rw [if_pos h1] at h
  unfold BJ at h
  cases hn : qV 0 (s.take (lead aN s)) <;> rw [hn] at h <;> cases h
  cases hk
 ·rw [if_neg h1] at h
  by_cases h2 : 0 < bG s /\ s.take (bG s) ∈ iw
  ·rw [if_pos h2] at h; cases h; cases hk
  ·rw [if_neg h2] at h
   by_cases h3 : 32 < bG s
   ·rw [if_pos h3] at h; cases h
   ·rw [if_neg h3] at h
    by_cases h4 : 0 < bG s
    ·rw [if_pos h4] at h; cases h
     exact Od h4 (by omega) fun q => h2 ⟨h4, q⟩
    ·rw [if_neg h4] at h
     by_cases h5 : eC s = 0
     ·rw [if_pos h5] at h; cases h
     ·rw [if_neg h5] at h; cases h; cases hk
theorem DV : ∀ (k : Nat) (s : bK) (p : Nat) (l : List Tok), fD k s p = .ok l -> l.length <= s.length /\ ∀ t ∈ l, t.kind = 1 -> t.text ≠ [] /\ rE t.text
 | 0, s, p, l, h => by simp only [fD] at h; cases h
 | k + 1, [], p, l, h => by simp only [fD] at h; cases h; exact ⟨fy _, fun t ht => by cases ht⟩
 | k + 1, c :: s, p, l, h => by
  simp only [fD] at h
  cases ho : ki (c :: s) p with
  | bad e q => rw [ho] at h; cases h
  | ok t =>
   rw [ho] at h;simp only at h
   obtain ⟨g1, g2, g3, g4⟩ := lF (by simp) ho
   cases hr : fD k (((c :: s).drop t.text.length).drop (bA false ((c :: s).drop t.text.length))) (p + t.text.length + bA false ((c :: s).drop t.text.length)) with
   | bad e q => rw [hr] at h; cases h
   | ok l2 =>
    rw [hr] at h
    cases h
    obtain ⟨i1, i2⟩ := DV k _ _ _ hr
    rw [uy, uy] at i1;refine ⟨by rw [List.length_cons]; omega, fun t' ht' hk => ?_⟩
    rcases oU.1 ht' with rfl | ht'
    ·exact OK (by simp) ho hk
    ·exact i2 t' ht' hk
theorem Gc : ∀ (k : Nat) (s : bK) (p : Nat) (e q : Nat), s.length < k -> fD k s p = .bad e q -> 0 < e
 | 0, s, p, e, q, hk, h => by omega
 | k + 1, [], p, e, q, hk, h => by simp only [fD] at h; cases h
 | k + 1, c :: s, p, e, q, hk, h => by
  simp only [fD] at h
  cases ho : ki (c :: s) p with
  | bad e' q' => rw [ho] at h; cases h; exact (Ei (by simp) ho).2
  | ok t =>
   rw [ho] at h;simp only at h
   obtain ⟨g1, g2, g3, g4⟩ := lF (by simp) ho
   cases hr : fD k (((c :: s).drop t.text.length).drop (bA false ((c :: s).drop t.text.length))) (p + t.text.length + bA false ((c :: s).drop t.text.length)) with
   | bad e' q' =>
    rw [hr] at h; cases h
    exact Gc k _ _ _ _ (by rw [uy, uy, List.length_cons]; rw [List.length_cons] at hk; omega) hr
   | ok l2 => rw [hr] at h; cases h
theorem HM {s : bK} {e p : Nat} (h : ta s = .bad e p) : 0 < e := by
 unfold ta at h
 split at h
 ·cases h; decide
 ·cases hr : fD (s.length + 1) (s.drop (bA false s)) (bA false s) with
  | bad e' q => rw [hr] at h; cases h; exact Gc _ _ _ _ _ (by rw [uy]; omega) hr
  | ok l2 => rw [hr] at h; cases h
theorem sy {k : Nat} {s : bK} {p : Nat} (h : s ≠ []) : fD (k + 1) s p = match ki s p with
  | .bad e q => .bad e q
  | .ok t => (fD k ((s.drop t.text.length).drop (bA false (s.drop t.text.length))) (p + t.text.length + bA false (s.drop t.text.length))).map (t :: ·) := by
 cases s with
 | nil => exact absurd rfl h
 | cons c s => rfl
def Tok.move (d : Nat) (t : Tok) : Tok := { t with pos := t.pos + d }
def aec (p : Nat) (s : bK) : Ar (List Tok) := fD (s.length + 1) (s.drop (bA false s)) (p + bA false s)
end
section
theorem O0 {n : Int} : cR B K HE [.int .u8 n] = some (bo (bX n)) := by
 rw [eE (by simp [gW])]
 simp +contextual -implicitDefEqProofs (maxSteps := 1000000) (maxDischargeDepth := 8) only [gW, bX, ax, ab, implies_true, simprocAttr]
theorem zY {n : Int} : cR B K Js [.int .u8 n] = some (bo (aN n)) := by
 rw [eE (by simp [iT])]
 simp +contextual -implicitDefEqProofs (maxSteps := 1000000) (maxDischargeDepth := 8) only [iT, aN, ax, ab, implies_true, simprocAttr]
def strs (l : List bK) : List (List EV) := l.map fun s => [.str s]
theorem PY : cR B K Jr [] = some (.fz 0 1 (strs iw)) := Bk 10 fun call => by kernel_rfl
theorem Qe {l : List bK} {i : Nat} : (strs l)[i]? = (l[i]?).map fun s => [.str s] := by unfold strs; rw [List.getElem?_map]
theorem IY {l : List bK} : (strs l).length = l.length := by unfold strs; rw [List.length_map]
theorem Oe {ws : List bK} {s : bK} (hw : ws.length < 1000) {m0 : Mem} {fr : Fr} (h0 : fr.get 0 = .str s) (h3 : fr.get 3 = .fz 0 1 (strs ws)) (h4 : fr.get 4 = .int .i64 0) (hd : fr.defers = []) :
  ∃ o, exec U (.loop ie) fr m0 = some o /\ ((s ∈ ws /\ ∃ fr', o = .ret fr' m0 /\ fr'.get 2 = .bool true /\ fr'.defers = []) \/ (s ∉ ws /\ ∃ fr', o = .exit 0 fr' m0 /\ fr'.defers = [])) := by
 refine iE (σ := Nat) (fun i fr m => m = m0 /\ i <= ws.length /\ s ∉ ws.take i /\ fr.get 0 = .str s /\ fr.get 3 = .fz 0 1 (strs ws) /\ fr.get 4 = .int .i64 (i : Int) /\ fr.defers = []) (fun i => ws.length - i) _ ?_ 0 fr m0 ⟨rfl, ml _, by simp, h0, h3, h4, hd⟩
 rintro i fr m ⟨rfl, hi, hn, h0, h3, h4, hd⟩
 generalize hX : exec U ie fr m = X
 by_cases bn : i < ws.length
 ·have hc : (i : Int) < (ws.length : Int) := by omega
  have hg : ws[i]? = some ws[i] := nc bn
  have ug := cQ (i := i) (by omega)
  simp +contextual -implicitDefEqProofs (maxSteps := 1000000) (maxDischargeDepth := 8) only [ie, h0, h3, h4, hd, hc, hg, bn, ug, b9, Qe, IY, ax, ab, implies_true, simprocAttr] at hX
  subst hX;refine uU (fun he => mC (.inl ⟨he ▸ Mv bn, _, rfl, ?_, ?_⟩)) (fun he => eR (i + 1) (by omega) ⟨rfl, bn, ?_, ?_, ?_, ?_, ?_⟩)
  case refine_3 =>
   rw [List.take_succ_eq_append_getElem bn, yb]
   rintro (q | q)
   ·exact hn q
   ·exact he (DL.1 q).symm
  all_goals simp only [h0, h3, hd, aq, Nat.reduceBEq ]
 ·have hc : ¬ ((i : Int) < (ws.length : Int)) := by omega
  simp +contextual -implicitDefEqProofs (maxSteps := 1000000) (maxDischargeDepth := 8) only [ie, h0, h3, h4, hd, hc, IY, ax, ab, implies_true, simprocAttr] at hX
  subst hX;have : ws.take i = ws := PX (by omega)
  rw [this] at hn;exact eS (.inr ⟨hn, _, rfl, by simp only [hd, aq, Nat.reduceBEq ]⟩)
theorem Sz {s : bK} : cR B K Ls [.str s] = some (bo (s ∈ iw)) := by
 rw [eE (by simp [jT])]
 generalize hL : exec (UT B K) (aE.loop ie) = L
 simp +contextual -implicitDefEqProofs (maxSteps := 1000000) (maxDischargeDepth := 8) only [jT, PY, ax, ab, implies_true, simprocAttr]
 subst hL;generalize hX : exec _ (.loop ie) _ _ = X
 obtain ⟨o, rfl, h⟩ := iD hX (Oe (ws := iw) (s := s) (by decide) (by simp only [aq, Nat.reduceBEq ]) (by simp only [aq, Nat.reduceBEq ]) (by simp only [aq, Nat.reduceBEq ]) (by simp only [aq, Nat.reduceBEq ]))
 rcases h with ⟨h, fr', rfl, h2, hd⟩ | ⟨h, fr', rfl, hd⟩
 ·simp +contextual -implicitDefEqProofs (maxSteps := 1000000) (maxDischargeDepth := 8) only [h, h2, hd, gL, ax, ab, implies_true, simprocAttr]
 ·simp +contextual -implicitDefEqProofs (maxSteps := 1000000) (maxDischargeDepth := 8) only [h, hd, fT, ax, ab, implies_true, simprocAttr]
end
section
def ints (l : List Int) : List (List EV) := l.map fun n => [.int .i64 n]
theorem Re {l : List Int} {i : Nat} : (ints l)[i]? = (l[i]?).map fun n => [.int .i64 n] := by unfold ints; rw [List.getElem?_map]
theorem Ex {l : List Int} : (ints l).length = l.length := by unfold ints; rw [List.length_map]
def Nd.cells (d : Nd) : List EV := [.int .i64 d.kind, row d.nl 0 1 (ints d.kids), .int .i64 d.n, .str d.s, .int .i64 d.pos]
def Lo (l : List Nd) : List (List EV) := l.map Nd.cells
theorem S3 {l : List Nd} {i : Nat} : (Lo l)[i]? = (l[i]?).map Nd.cells := by unfold Lo; rw [List.getElem?_map]
theorem HA {l : List Nd} : (Lo l).length = l.length := by unfold Lo; rw [List.length_map]
end
section
def Zz (l : List Nd) (k : List Int) : Prop := ∀ x ∈ k, 0 <= x /\ x < (l.length : Int)
end
section
theorem LR {l : List Nd} (hk : tf l) : ∀ (f i : Nat), i < f -> u4 l f i = ui l i := by
 have key : ∀ (i f g : Nat), i < f -> i < g -> u4 l f i = u4 l g i := by
  intro i
  induction i using Nat.strongRecOn with
  | _ i ih =>
   intro f g hf hg
   obtain ⟨f, rfl⟩ : ∃ f', f = f' + 1 := ⟨f - 1, by omega⟩
   obtain ⟨g, rfl⟩ : ∃ g', g = g' + 1 := ⟨g - 1, by omega⟩
   simp only [u4]
   cases hd : l[i]? with
   | none => rfl
   | some d =>
    simp only
    have hx := hk i d hd
    generalize d.kids = ks at hx
    have : ∀ (ks : List Int) (a : Nat), (∀ x ∈ ks, 0 <= x /\ x < (i : Int)) -> ks.foldl (fun h x => max h (1 + u4 l f x.toNat)) a = ks.foldl (fun h x => max h (1 + u4 l g x.toNat)) a := by
     intro ks
     induction ks with
     | nil => intro a _; rfl
     | cons x ks Vt =>
      intro a h
      have := h x (by simp)
      rw [List.foldl_cons, List.foldl_cons, ih x.toNat (by omega) f g (by omega) (by omega)];exact Vt _ fun y hy => h y (by simp [hy])
    exact this ks 1 hx
 intro f i h
 exact key i f (i + 1) h (by omega)
theorem EH {l : List Nd} (hk : tf l) {i : Nat} {d : Nd} (hd : l[i]? = some d) : ui l i = d.kids.foldl (fun h x => max h (1 + ui l x.toNat)) 1 := by
 unfold ui;rw [u4];simp only [hd];have hx := hk i d hd
 generalize d.kids = ks at hx
 have : ∀ (ks : List Int) (a : Nat), (∀ x ∈ ks, 0 <= x /\ x < (i : Int)) -> ks.foldl (fun h x => max h (1 + u4 l i x.toNat)) a = ks.foldl (fun h x => max h (1 + u4 l (x.toNat + 1) x.toNat)) a := by
  intro ks
  induction ks with
  | nil => intro a _; rfl
  | cons x ks Vt =>
   intro a h
   have := h x (by simp)
   rw [List.foldl_cons, List.foldl_cons, LR hk i x.toNat (by omega)];exact Vt _ fun y hy => h y (by simp [hy])
 exact this ks 1 hx
end
section
def E1 (l : List Nd) (a : Int) : Nat := (oW l).count a
theorem Ke {a : Int} : E1 [] a = 0 := rfl
theorem z5 {x y : List Nd} {a : Int} : E1 (x ++ y) a = E1 x a + E1 y a := by simp [E1, oW]
theorem Kd {d : Nd} {a : Int} : E1 [d] a = d.kids.count a := by simp [E1, oW]
def JG (lo hi : Nat) (a : Int) : Nat := if (lo : Int) <= a /\ a < (hi : Int) then 1 else 0
theorem rK {a b c : Nat} {x : Int} (h : a <= b) (h' : b <= c) : JG a c x = JG a b x + JG b c x := by
 unfold JG;by_cases h1 : (a : Int) <= x /\ x < (b : Int) <;> by_cases h2 : (b : Int) <= x /\ x < (c : Int) <;> by_cases h3 : (a : Int) <= x /\ x < (c : Int) <;> first | (rw [if_pos h1, if_pos h2]; exfalso; omega) | (rw [if_pos h1, if_neg h2, if_pos h3]) | (rw [if_neg h1, if_pos h2, if_pos h3]) | (rw [if_neg h1, if_neg h2, if_neg h3]) | (exfalso; omega)
theorem JF {a : Nat} {x : Int} : JG a a x = 0 := by unfold JG; rw [if_neg (by omega)]
theorem HP {a : Nat} {x : Int} : JG a (a + 1) x = [(a : Int)].count x := by
 unfold JG;by_cases h : x = (a : Int)
 ·subst h; rw [if_pos (by omega)]; simp
 ·rw [if_neg (by omega), List.count_eq_zero_of_not_mem (by simpa using h)]
structure Sg (l : List Tok) (d : Nd) : Prop where
 own : Jf d
 kind : nD d.kind
 pos : ∃ t ∈ l, d.pos = (t.pos : Int)
 kn : if d.kind = 5 \/ d.kind = 8 then d.kids.length = 2 else if d.kind = 6 \/ d.kind = 7 \/ d.kind = 9 \/ d.kind = 10 then d.kids.length = 1 else if d.kind = 11 then d.kids.length <= 8 else d.kids.length = 0
structure ad1 (l : List Tok) (st : RS) : Prop where
 lt : tf st.tree
 hl : st.high.length = st.tree.length
 hh : ∀ i, i < st.tree.length -> st.high[i]? = some (ui st.tree i)
structure TI (l : List Tok) (st : RS) : Prop where
 t : st.fe = 0 -> ad1 l st
 f : st.fe ≠ 0 -> ∃ t ∈ l, st.fp = (t.pos : Int)
structure im (l : List Tok) (ins : List Int) (st s1 : RS) (r : List Int) : Prop where
 inv : TI l s1
 ok : s1.fe = 0 -> st.fe = 0 /\ ∃ new, s1.tree = st.tree ++ new /\ (∀ d ∈ new, Sg l d) /\ ∀ a, E1 new a + r.count a = ins.count a + JG st.tree.length s1.tree.length a
section
variable {l : List Tok} {st s1 s2 : RS}
theorem lI (h : 0 < l.length) : st.now l ∈ l := by
 have : min st.pos (l.length - 1) < l.length := by omega
 unfold RS.now;rw [List.getD_eq_getElem?_getD, nc this];exact Mv this
theorem TI.same (h : TI l st) (h1 : s1.tree = st.tree) (h2 : s1.high = st.high) (h3 : s1.fe = st.fe) (h4 : s1.fp = st.fp) : TI l s1 where
 t q := by have := h.t (h3 ▸ q); exact ⟨by rw [h1]; exact this.lt, by rw [h1, h2]; exact this.hl, by rw [h1, h2]; exact this.hh⟩
 f q := by rw [h4]; exact h.f (h3 ▸ q)
theorem TI.fail (h : TI l st) {e : Int} {p : Int} (he : e ≠ 0) (hp : ∃ t ∈ l, p = (t.pos : Int)) : TI l (st.fail e p) := by
 unfold RS.fail
 split
 ·exact ⟨fun q => absurd q he, fun _ => hp⟩
 ·exact h
theorem TI.next (h : TI l st) : TI l st.next := h.same rfl rfl rfl rfl
theorem TI.close (h : TI l st) : TI l st.close := h.same rfl rfl rfl rfl
theorem TI.open (h : TI l st) {p : Int} (hp : ∃ t ∈ l, p = (t.pos : Int)) : TI l (st.open p) := by
 unfold RS.open
 split
 ·exact TI.fail (e := 4) (h.same (s1 := { st with deep := st.deep + 1 }) rfl rfl rfl rfl) (by decide) hp
 ·exact h.same rfl rfl rfl rfl
theorem TI.want (hl : 0 < l.length) (h : TI l st) {s : bK} : TI l (st.want l s) := by
 unfold RS.want
 split
 ·exact h.next
 ·exact h.fail (by decide) ⟨_, lI hl, rfl⟩
theorem jA {s : bK} (h : (st.want l s).fe = 0) : st.fe = 0 /\ (st.want l s).tree = st.tree := by
 unfold RS.want at h ⊢
 split at h
 ·rename_i q; rw [if_pos q]; exact ⟨h, rfl⟩
 ·exact absurd h (ej (by decide))
theorem Ct {p : Int} (h : (st.open p).fe = 0) : st.fe = 0 /\ (st.open p).tree = st.tree := by
 unfold RS.open at h ⊢
 split at h
 ·exact absurd h (ej (by decide))
 ·rename_i q; rw [if_neg q]; exact ⟨h, rfl⟩
theorem GD {x y : List Nd} (hk : tf (x ++ y)) : ∀ i, i < x.length -> ui (x ++ y) i = ui x i := by
 intro i
 induction i using Nat.strongRecOn with
 | _ i ih =>
  intro hi
  have WT : tf x := fun j d hj => hk j d (by rw [BC (uz.1 hj).1]; exact hj)
  have hd : x[i]? = some x[i] := nc hi
  have FT : (x ++ y)[i]? = some x[i] := by rw [BC hi]; exact hd
  rw [EH hk FT, EH WT hd];have bn := WT i _ hd
  have : ∀ (ks : List Int) (a : Nat), (∀ z ∈ ks, 0 <= z /\ z < (i : Int)) -> ks.foldl (fun h Zv => max h (1 + ui (x ++ y) Zv.toNat)) a = ks.foldl (fun h Zv => max h (1 + ui x Zv.toNat)) a := by
   intro ks
   induction ks with
   | nil => intro _ _; rfl
   | cons z ks Vt =>
    intro a hz
    have hz0 := hz z (by simp)
    rw [List.foldl_cons, List.foldl_cons, ih z.toNat (by omega) (by omega)];exact Vt _ fun w hw => hz w (by simp [hw])
  exact this _ _ bn
theorem Jz {x : List Nd} {d : Nd} (hk : tf x) (hd : ∀ z ∈ d.kids, 0 <= z /\ z < (x.length : Int)) : tf (x ++ [d]) := by
 intro i e hi
 by_cases h : i < x.length
 ·rw [BC h] at hi; exact hk i e hi
 ·rw [FA (by omega)] at hi
  have : i = x.length := by
   have := (uz.1 hi).1
   simp only [List.length_singleton] at this; omega
  subst this;simp only [Nat.sub_self, List.getElem?_cons_zero, bf] at hi;subst hi; exact hd
theorem MG (h : TI l st) {d : Nd} (hp : ∃ t ∈ l, d.pos = (t.pos : Int)) (hd : st.fe = 0 -> ∀ z ∈ d.kids, 0 <= z /\ z < (st.tree.length : Int)) : TI l (st.put d) /\ ((st.put d).fe = 0 -> st.fe = 0 /\ (st.put d).tree = st.tree ++ [d] /\ st.fV d = (st.tree.length : Int)) := by
 unfold RS.put RS.fV RS.nM;by_cases h2 : 200 < nA st.high d.kids
 ·rw [if_pos h2, if_neg (ej (by decide))]
  exact ⟨h.fail (by decide) hp, fun q => absurd q (ej (by decide))⟩
 ·rw [if_neg h2]
  by_cases ji : st.fe = 0
  ·rw [if_pos ji, if_pos ji]
   refine ⟨⟨fun _ => ?_, fun q => absurd ji q⟩, fun _ => ⟨ji, rfl, rfl⟩⟩
   have hk := hd ji
   have ht := h.t ji
   have FO := Jz ht.lt hk
   refine ⟨FO, ?_, ?_⟩
   ·show (st.high ++ [_]).length = (st.tree ++ [d]).length
    rw [jz, jz, ht.hl]; rfl
   ·intro i hi
    show (st.high ++ [_])[i]? = some (ui (st.tree ++ [d]) i)
    have hi : i < (st.tree ++ [d]).length := hi
    rw [jz, List.length_singleton] at hi;by_cases h' : i < st.tree.length
    ·rw [BC (by rw [ht.hl]; exact h'), ht.hh i h', GD FO i h']
    ·have : i = st.tree.length := by omega
     subst this;rw [FA (by rw [ht.hl]; exact fy _), ht.hl, Nat.sub_self, List.getElem?_cons_zero, EH FO (d := d) (by rw [FA (fy _), Nat.sub_self]; rfl)]
     congr 1
     unfold nA;have : ∀ (ks : List Int) (a : Nat), (∀ z ∈ ks, 0 <= z /\ z < (st.tree.length : Int)) -> ks.foldl (Nj st.high) a = ks.foldl (fun h x => max h (1 + ui (st.tree ++ [d]) x.toNat)) a := by
      intro ks
      induction ks with
      | nil => intro _ _; rfl
      | cons z ks Vt =>
       intro a hz
       have hz0 := hz z (by simp)
       rw [List.foldl_cons, List.foldl_cons, Vt _ fun w hw => hz w (by simp [hw])]
       congr 1
       unfold Nj;have e1 := ht.hh z.toNat (by omega)
       rw [if_pos (by rw [ht.hl]; omega), List.getD_eq_getElem?_getD, e1, Option.getD_some, GD FO _ (by omega), Nat.add_comm]
     exact this _ _ hk
  ·rw [if_neg ji]
   exact ⟨h, fun q => absurd q ji⟩
end
end
section
def gP.ins : gP -> List Int
 | .ko _ _ left => [left] | .lW left => [left] | .lm out => out | _ => []
def gP.len (s1 : RS) (r : List Int) : gP -> Prop
 | .args => s1.fe = 0 -> r.length <= 8
 | .lm _ => s1.fe = 0 -> r.length <= 8
 | _ => r.length = 1
def xd (st : RS) (xs : List Int) : Prop := st.fe = 0 -> ∀ x ∈ xs, 0 <= x /\ x < (st.tree.length : Int)
section
variable {l : List Tok} {st st' s1 K4 s2 : RS} {ins mid r r' : List Int}
theorem im.val (h : im l ins st s1 r) (hi : xd st ins) : xd s1 r := by
 intro q x hx
 obtain ⟨h0, new, hn, _, hc⟩ := h.ok q
 have h1 := hc x
 have h2 : 0 < r.count x := List.count_pos_iff.2 hx
 have hlen : s1.tree.length = st.tree.length + new.length := by rw [hn, jz]
 by_cases h3 : x ∈ ins
 ·have := hi h0 x h3; omega
 ·rw [List.count_eq_zero_of_not_mem h3] at h1
  unfold JG at h1
  split at h1
  ·omega
  ·omega
theorem im.refl (h : TI l st) : im l ins st st ins := ⟨h, fun q => ⟨q, [], by simp, by simp, fun a => by rw [Ke, JF]; omega⟩⟩
theorem im.bad (h : TI l s1) (h0 : s1.fe ≠ 0) : im l ins st s1 r := ⟨h, fun q => absurd q h0⟩
theorem im.trans (h : im l ins st s1 mid) (h' : im l mid s1 s2 r) : im l ins st s2 r := by
 refine ⟨h'.inv, fun q => ?_⟩
 obtain ⟨h1, n2, e2, d2, c2⟩ := h'.ok q
 obtain ⟨h0, n1, e1, d1, c1⟩ := h.ok h1
 refine ⟨h0, n1 ++ n2, by rw [e2, e1, List.append_assoc], fun d hd => (yb.1 hd).elim (d1 d) (d2 d), fun a => ?_⟩
 have := c1 a; have := c2 a
 have l1 : s1.tree.length = st.tree.length + n1.length := by rw [e1, jz]
 have l2 : s2.tree.length = s1.tree.length + n2.length := by rw [e2, jz]
 rw [z5, rK (b := s1.tree.length) (by omega) (by omega)];omega
theorem im.A6 (h : im l ins st s1 r) (hi : TI l K4) (h0 : st.fe = 0 -> st'.fe = 0 /\ st'.tree = st.tree) (h2 : K4.fe = 0 -> s1.fe = 0 /\ K4.tree = s1.tree /\ r' = r) : im l ins st' K4 r' := by
 refine ⟨hi, fun q => ?_⟩
 obtain ⟨q1, q2, rfl⟩ := h2 q
 obtain ⟨p0, n1, e1, d1, c1⟩ := h.ok q1
 obtain ⟨p1, p2⟩ := h0 p0
 exact ⟨p1, n1, by rw [q2, p2, e1], d1, fun a => by rw [q2, p2]; exact c1 a⟩
theorem im.put {extra : List Int} {d : Nd} (h : im l ins st s1 r) (hi : xd st ins) (hp : ∃ t ∈ l, d.pos = (t.pos : Int)) (hd : s1.fe = 0 -> Sg l d) (hk : ∀ a, d.kids.count a = extra.count a + r.count a) (hx : xd st extra) : im l (extra ++ ins) st (s1.put d) [s1.fV d] := by
 have hv := h.val hi
 obtain ⟨g1, g2⟩ := MG (st := s1) h.inv hp fun q => fun z hz => by
  have h2 : 0 < d.kids.count z := List.count_pos_iff.2 hz
  rw [hk z] at h2;obtain ⟨h0, new, hn, _, _⟩ := h.ok q
  have hlen : s1.tree.length = st.tree.length + new.length := by rw [hn, jz]
  by_cases h3 : z ∈ extra
  ·have := hx h0 z h3; omega
  ·rw [List.count_eq_zero_of_not_mem h3] at h2
   exact hv q z (List.count_pos_iff.1 (by omega))
 refine ⟨g1, fun q => ?_⟩
 obtain ⟨p0, p1, p2⟩ := g2 q
 obtain ⟨h0, new, hn, dn, hc⟩ := h.ok p0
 have hlen : s1.tree.length = st.tree.length + new.length := by rw [hn, jz]
 refine ⟨h0, new ++ [d], by rw [p1, hn, List.append_assoc], fun e he => (yb.1 he).elim (dn e) (fun w => by rw [DL.1 w]; exact hd p0), fun a => ?_⟩
 rw [z5, Kd, hk, p2, List.count_append, p1, jz, List.length_singleton, rK (b := s1.tree.length) (by omega) (by omega), HP];have := hc a
 omega
end
theorem xr {l : List Tok} {kind n : Int} {kids : List Int} {s : bK} {t : Tok} (ht : t ∈ l) (h1 : nD kind) (h2 : kind ∈ Lq ↔ s ≠ []) (h3 : s ≠ [] -> rE s) (h4 : if kind = 1 then 0 <= n else if kind = 2 then n = 0 \/ n = 1 else if kind = 5 then 1 <= n /\ n <= 16 else if kind = 24 \/ kind = 25 then 1 <= n /\ n <= 3 else n = 0) (h5 : if kind = 5 \/ kind = 8 then kids.length = 2 else if kind = 6 \/ kind = 7 \/ kind = 9 \/ kind = 10 then kids.length = 1 else if kind = 11 then kids.length <= 8 else kids.length = 0) : Sg l (nd kind kids n s (t.pos : Int)) := by
 refine ⟨⟨?_, fun q => q.2 (h3 q.1), h4⟩, h1, ⟨t, ht, rfl⟩, h5⟩
 rintro ((q | q) | q)
 ·have := h1.1; have := h1.2; simp only [nd] at q; omega
 ·simp only [nd] at q; omega
 ·exact q h2
theorem Qw {s : bK} (h : (mv s).2 ≠ 0) : 1 <= (mv s).2 /\ (mv s).2 <= 16 := by
 have := MM s; omega
end
section
theorem bind_some {α β : Type} {x : Option α} {f : α -> Option β} {b : β} (h : x.bind f = some b) : ∃ a, x = some a /\ f a = some b := by
 cases x with
 | none => cases h
 | some a => exact ⟨a, rfl, h⟩
theorem iY {r : List Int} (h : r.length = 1) : ∃ x, r = [x] := by
 match r, h with
 | [x], _ => exact ⟨x, rfl⟩
theorem xd.nil {st : RS} : xd st [] := fun _ _ h => by cases h
theorem RF {l : List Tok} (hl : 0 < l.length) (hg : ∀ t ∈ l, t.kind = 1 -> t.text ≠ [] /\ rE t.text) : ∀ (k : Nat) (c : gP) (st s1 : RS) (r : List Int), gF l k c st = some (s1, r) -> TI l st -> xd st c.ins -> c.may -> im l c.ins st s1 r /\ c.len s1 r := by
 intro k
 induction k with
 | zero => intro c st s1 r h; cases h
 | succ k ih =>
  intro c st s1 r h hT hI hm
  have u0 := lI (st := st) hl
  have dx : ∃ t ∈ l, ((st.now l).pos : Int) = (t.pos : Int) := ⟨_, u0, rfl⟩
  cases c with
  | expr =>
   simp only [gF] at h;obtain ⟨⟨s2, r2⟩, h1, h2⟩ := bind_some h
   simp only [bf, eO] at h2;obtain ⟨rfl, rfl⟩ := h2
   obtain ⟨p, n⟩ := ih _ _ _ _ h1 hT xd.nil trivial
   refine ⟨p.A6 p.inv (fun q => ⟨q, rfl⟩) fun q => ⟨q, rfl, if_pos q⟩, ?_⟩
   show List.length _ = 1
   split
   ·exact n
   ·rfl
  | ll least =>
   simp only [gF] at h;obtain ⟨⟨s2, r2⟩, h1, h2⟩ := bind_some h
   obtain ⟨p, n⟩ := ih _ _ _ _ h1 hT xd.nil trivial
   obtain ⟨x, rfl⟩ := iY n
   simp only [List.headD_cons] at h2;obtain ⟨p2, n2⟩ := ih _ _ _ _ h2 p.inv (p.val xd.nil) trivial
   exact ⟨p.trans p2, n2⟩
  | ko least nu left =>
   simp only [gF] at h
   split at h
   ·rename_i hc
    obtain ⟨⟨s2, r2⟩, h1, h2⟩ := bind_some h
    obtain ⟨p, n⟩ := ih _ _ _ _ h1 hT.next xd.nil trivial
    obtain ⟨x, rfl⟩ := iY n
    simp only [List.headD_cons] at h2;have p1 : im l [] st s2 [x] := p.A6 p.inv (fun q => ⟨q, rfl⟩) fun q => ⟨q, rfl, rfl⟩
    have o := Qw (s := (st.now l).text) (by have := hc.2; omega)
    have p2 := p1.put (extra := [left]) (d := nd 5 [left, x] (mv (st.now l).text).2 [] (st.now l).pos) xd.nil dx (fun _ => xr u0 ⟨by decide, by decide⟩ (by decide) (fun q => absurd rfl q) o rfl) (fun a => by simp only [nd, List.count_cons, List.count_nil]; omega) hI
    rw [List.append_nil] at p2;obtain ⟨p3, n3⟩ := ih _ _ _ _ h2 p2.inv (p2.val hI) trivial
    exact ⟨p2.trans p3, n3⟩
   ·simp only [bf, eO] at h
    obtain ⟨rfl, rfl⟩ := h
    exact ⟨im.refl hT, rfl⟩
  | front =>
   simp only [gF] at h;have one : ∀ (kind : Int), kind = 6 \/ kind = 7 -> (if (st.next.open (st.now l).pos).fe = 0 then (gF l k .front (st.next.open (st.now l).pos)).bind fun (s1, r) => some (s1.close.put (nd kind r 0 [] (st.now l).pos), [s1.close.fV (nd kind r 0 [] (st.now l).pos)]) else some (st.next.open (st.now l).pos, [-1])) = some (s1, r) -> im l [] st s1 r /\ r.length = 1 := by
    intro kind Ru h
    split at h
    ·rename_i hf
     obtain ⟨⟨s2, r2⟩, h1, h2⟩ := bind_some h
     simp only [bf, eO] at h2;obtain ⟨rfl, rfl⟩ := h2
     obtain ⟨p, n⟩ := ih _ _ _ _ h1 (hT.next.open dx) xd.nil trivial
     obtain ⟨x, rfl⟩ := iY n
     have p1 : im l [] st s2.close [x] := p.A6 p.inv.close (fun q => by obtain ⟨a, b⟩ := Ct q; exact ⟨a, b.symm⟩) fun q => ⟨q, rfl, rfl⟩
     have p2 := p1.put (extra := []) (d := nd kind [x] 0 [] (st.now l).pos) xd.nil dx (fun _ => by
      rcases Ru with rfl | rfl <;> exact xr u0 ⟨by decide, by decide⟩ (by decide) (fun q => absurd rfl q) rfl rfl) (fun a => by simp only [nd, List.count_nil]; omega) xd.nil
     exact ⟨p2, rfl⟩
    ·rename_i hf
     simp only [bf, eO] at h;obtain ⟨rfl, rfl⟩ := h
     exact ⟨im.bad (hT.next.open dx) hf, rfl⟩
   split at h
   ·exact one 6 (.inl rfl) h
   ·split at h
    ·exact one 7 (.inr rfl) h
    ·obtain ⟨⟨s2, r2⟩, h1, h2⟩ := bind_some h
     obtain ⟨p, n⟩ := ih _ _ _ _ h1 hT xd.nil trivial
     obtain ⟨x, rfl⟩ := iY n
     simp only [List.headD_cons] at h2;obtain ⟨p2, n2⟩ := ih _ _ _ _ h2 p.inv (p.val xd.nil) trivial
     exact ⟨p.trans p2, n2⟩
  | atom =>
   simp only [gF] at h;have p0 : im l [] st st.next [] := (im.refl hT).A6 hT.next (fun q => ⟨q, rfl⟩) fun q => ⟨q, rfl, rfl⟩
   have leaf : ∀ (kind n : Int) (s : bK), Sg l (nd kind [] n s (st.now l).pos) -> some (st.next.put (nd kind [] n s (st.now l).pos), [st.next.fV (nd kind [] n s (st.now l).pos)]) = some (s1, r) -> im l [] st s1 r /\ r.length = 1 := by
    intro kind n s hn h
    simp only [bf, eO] at h;obtain ⟨rfl, rfl⟩ := h
    exact ⟨p0.put (extra := []) xd.nil dx (fun _ => hn) (fun a => by simp only [nd, List.count_nil]) xd.nil, rfl⟩
   have Xy : ∀ kind : Int, kind = 9 \/ kind = 10 -> ((gF l k (.inner [40] [41]) st.next).bind fun (s1, r) => some (s1.put (nd kind r 0 [] (st.now l).pos), [s1.fV (nd kind r 0 [] (st.now l).pos)])) = some (s1, r) -> im l [] st s1 r /\ r.length = 1 := by
    intro kind Ru h
    obtain ⟨⟨s2, r2⟩, h1, h2⟩ := bind_some h
    simp only [bf, eO] at h2;obtain ⟨rfl, rfl⟩ := h2
    obtain ⟨p, n⟩ := ih _ _ _ _ h1 hT.next xd.nil trivial
    obtain ⟨x, rfl⟩ := iY n
    have p1 : im l [] st s2 [x] := p.A6 p.inv (fun q => ⟨q, rfl⟩) fun q => ⟨q, rfl, rfl⟩
    exact ⟨p1.put (extra := []) (d := nd kind [x] 0 [] (st.now l).pos) xd.nil dx (fun _ => by
     rcases Ru with rfl | rfl <;> exact xr u0 ⟨by decide, by decide⟩ (by decide) (fun q => absurd rfl q) rfl rfl) (fun a => by simp only [nd, List.count_nil]; omega) xd.nil, rfl⟩
   split at h
   ·rename_i hf
    simp only [bf, eO] at h;obtain ⟨rfl, rfl⟩ := h
    exact ⟨im.bad hT hf, rfl⟩
   ·split at h
    ·obtain ⟨p, n⟩ := ih _ _ _ _ h hT xd.nil trivial
     exact ⟨p, n⟩
    ·split at h
     ·exact leaf 1 _ [] (xr u0 ⟨by decide, by decide⟩ (by decide) (fun q => absurd rfl q) (Int.natCast_nonneg _) rfl) h
     ·split at h
      ·rename_i Ni
       obtain ⟨t1, t2⟩ := hg _ u0 Ni
       split at h
       ·obtain ⟨⟨s2, r2⟩, h1, h2⟩ := bind_some h
        simp only [bf, eO] at h2;obtain ⟨rfl, rfl⟩ := h2
        obtain ⟨p, n⟩ := ih _ _ _ _ h1 hT.next xd.nil trivial
        have p1 : im l [] st s2 r2 := p.A6 p.inv (fun q => ⟨q, rfl⟩) fun q => ⟨q, rfl, rfl⟩
        exact ⟨p1.put (extra := []) (d := nd 11 r2 0 (st.now l).text (st.now l).pos) xd.nil dx (fun q => xr u0 ⟨by decide, by decide⟩ ⟨fun _ => t1, fun _ => by decide⟩ (fun _ => t2) rfl (n q)) (fun a => by simp only [nd, List.count_nil]; omega) xd.nil, rfl⟩
       ·exact leaf 4 0 _ (xr u0 ⟨by decide, by decide⟩ ⟨fun _ => t1, fun _ => by decide⟩ (fun _ => t2) rfl rfl) h
      ·split at h
       ·exact leaf 2 1 [] (xr u0 ⟨by decide, by decide⟩ (by decide) (fun q => absurd rfl q) (.inr rfl) rfl) h
       ·split at h
        ·exact leaf 2 0 [] (xr u0 ⟨by decide, by decide⟩ (by decide) (fun q => absurd rfl q) (.inl rfl) rfl) h
        ·split at h
         ·exact leaf 3 0 [] (xr u0 ⟨by decide, by decide⟩ (by decide) (fun q => absurd rfl q) rfl rfl) h
         ·split at h
          ·exact Xy 9 (.inl rfl) h
          ·split at h
           ·exact Xy 10 (.inr rfl) h
           ·simp only [bf, eO] at h
            obtain ⟨rfl, rfl⟩ := h
            exact ⟨im.bad (hT.fail (by decide) dx) (ej (by decide)), rfl⟩
  | lW left =>
   simp only [gF] at h
   split at h
   ·obtain ⟨⟨s2, r2⟩, h1, h2⟩ := bind_some h
    obtain ⟨p, n⟩ := ih _ _ _ _ h1 hT xd.nil trivial
    obtain ⟨x, rfl⟩ := iY n
    have p2 := im.put (extra := [left]) (d := nd 8 [left, x] 0 [] (st.now l).pos) p xd.nil dx (fun _ => xr u0 ⟨by decide, by decide⟩ (by decide) (fun q => absurd rfl q) rfl rfl) (fun a => by simp only [nd, List.count_cons, List.count_nil]; omega) hI
    have p2 : im l [left] st _ _ := p2
    obtain ⟨p3, n3⟩ := ih _ _ _ _ h2 p2.inv (p2.val hI) trivial
    exact ⟨p2.trans p3, n3⟩
   ·simp only [bf, eO] at h
    obtain ⟨rfl, rfl⟩ := h
    exact ⟨im.refl hT, rfl⟩
  | inner a z =>
   simp only [gF] at h
   split at h
   ·split at h
    ·obtain ⟨⟨s2, r2⟩, h1, h2⟩ := bind_some h
     simp only [bf, eO] at h2;obtain ⟨rfl, rfl⟩ := h2
     obtain ⟨p, n⟩ := ih _ _ _ _ h1 (hT.next.open dx) xd.nil trivial
     refine ⟨p.A6 (p.inv.want hl).close (fun q => by obtain ⟨a, b⟩ := Ct q; exact ⟨a, b.symm⟩) fun q => ?_, ?_⟩
     ·obtain ⟨a1, a2⟩ := jA (s := z) (st := s2) (l := l) q
      exact ⟨a1, a2, if_pos q⟩
     ·show List.length _ = 1
      split
      ·exact n
      ·rfl
    ·rename_i hf
     simp only [bf, eO] at h;obtain ⟨rfl, rfl⟩ := h
     exact ⟨im.bad (hT.next.open dx) hf, rfl⟩
   ·simp only [bf, eO] at h
    obtain ⟨rfl, rfl⟩ := h
    exact ⟨im.bad (hT.fail (by decide) dx) (ej (by decide)), rfl⟩
  | args =>
   simp only [gF] at h
   split at h
   ·split at h
    ·obtain ⟨⟨s2, r2⟩, h1, h2⟩ := bind_some h
     simp only [bf, eO] at h2;obtain ⟨rfl, rfl⟩ := h2
     have key : im l [] (st.next.open (st.now l).pos) s2 r2 /\ (s2.fe = 0 -> r2.length <= 8) := by
      split at h1
      ·simp only [bf, eO] at h1
       obtain ⟨rfl, rfl⟩ := h1
       exact ⟨im.refl (hT.next.open dx), fun _ => ml _⟩
      ·exact ih _ _ _ _ h1 (hT.next.open dx) xd.nil (ml _)
     obtain ⟨p, n⟩ := key
     refine ⟨p.A6 (p.inv.want hl).close (fun q => by obtain ⟨a, b⟩ := Ct q; exact ⟨a, b.symm⟩) fun q => ?_, fun q => ?_⟩
     ·obtain ⟨a1, a2⟩ := jA (s := [41]) (st := s2) (l := l) q
      exact ⟨a1, a2, rfl⟩
     ·exact n (jA (s := [41]) (st := s2) (l := l) q).1
    ·rename_i hf
     simp only [bf, eO] at h;obtain ⟨rfl, rfl⟩ := h
     exact ⟨im.bad (hT.next.open dx) hf, fun _ => ml _⟩
   ·simp only [bf, eO] at h
    obtain ⟨rfl, rfl⟩ := h
    exact ⟨im.bad (hT.fail (by decide) dx) (ej (by decide)), fun _ => ml _⟩
  | lm out =>
   simp only [gF] at h;have hm : out.length <= 8 := hm
   have t0 : TI l (if out.length = 8 then st.fail 3 (st.now l).pos else st) := by
    split
    ·exact hT.fail (by decide) dx
    ·exact hT
   have f0 : (if out.length = 8 then st.fail 3 (st.now l).pos else st).fe = 0 -> out.length < 8 /\ (if out.length = 8 then st.fail 3 (st.now l).pos else st) = st := by
    split
    ·exact fun q => absurd q (ej (by decide))
    ·exact fun _ => ⟨by omega, rfl⟩
   generalize (if out.length = 8 then st.fail 3 (st.now l).pos else st) = s0 at *
   obtain ⟨⟨s2, r2⟩, h1, h2⟩ := bind_some h
   obtain ⟨p, n⟩ := ih _ _ _ _ h1 t0 xd.nil trivial
   obtain ⟨x, rfl⟩ := iY n
   have p1 : im l out st s2 (out ++ [x]) := ⟨p.inv, fun q => by
    obtain ⟨a0, new, a1, d1, a2⟩ := p.ok q
    obtain ⟨b0, rfl⟩ := f0 a0
    exact ⟨a0, new, a1, d1, fun a => by have := a2 a; simp only [gP.ins, List.count_nil] at this; rw [List.count_append]; omega⟩⟩
   have bn : s2.fe = 0 -> out.length < 8 := fun q => by
    obtain ⟨a0, _⟩ := p.ok q
    exact (f0 a0).1
   simp only at h2
   split at h2
   ·rename_i hc
    have p2 : im l out st s2.next (out ++ [x]) := p1.A6 p1.inv.next (fun q => ⟨q, rfl⟩) fun q => ⟨q, rfl, rfl⟩
    obtain ⟨p3, n3⟩ := ih _ _ _ _ h2 p2.inv (p2.val hI) (by show (out ++ [x]).length <= 8; rw [jz]; exact bn hc.1)
    exact ⟨p2.trans p3, n3⟩
   ·simp only [bf, eO] at h2
    obtain ⟨rfl, rfl⟩ := h2
    exact ⟨p1, fun q => by rw [jz]; exact bn q⟩
end
section
def jy (l : List Tok) (st : RS) : RS × Int := match gF l (8 * (l.length - st.pos) + 5) .expr st with
 | some (s, r) => (s, r.headD 0)
 | none => (st, 0)
def ze (l : List Tok) (a z : bK) (st : RS) : RS × Int := match gF l (8 * (l.length - st.pos) + 1) (.inner a z) st with
 | some (s, r) => (s, r.headD 0)
 | none => (st, 0)
def sf (l : List Tok) (st : RS) : RS × List Int := match gF l (8 * (l.length - st.pos) + 1) .args st with
 | some (s, r) => (s, r)
 | none => (st, [])
def RS.np (st : RS) (l : List Tok) : Prop := st.fe = 0 /\ (st.now l).kind = 1
instance (st : RS) (l : List Tok) : Decidable (st.np l) := inferInstanceAs (Decidable (_ /\ _))
def RS.name (st : RS) (l : List Tok) : RS := if st.np l then st.next else st.fail 8 (st.now l).pos
def RS.cr (st : RS) (l : List Tok) : bK := if st.np l then (st.now l).text else []
def Oh : bK := [118, 97, 114]
def Ws : bK := [105, 102]
def P5 : bK := [101, 108, 115, 101]
def Av : bK := [119, 104, 105, 108, 101]
def Oi : bK := [102, 111, 114]
def Ax : bK := [98, 114, 101, 97, 107]
def oJ : bK := [99, 111, 110, 116, 105, 110, 117, 101]
def vw : bK := [114, 101, 116, 117, 114, 110]
def DR : bK := [112, 114, 105, 110, 116]
def G8 : bK := [105, 110, 116]
def yf : bK := [98, 111, 111, 108]
def G9 : bK := [97, 114, 114]
def Aw : bK := [102, 110]
def jm (l : List Tok) (st : RS) : RS × Int := if st.is l G8 then (st.next, 1) else if st.is l yf then (st.next, 2) else if st.is l G9 then (st.next, 3) else (st.fail 8 (st.now l).pos, 0)
def kE (l : List Tok) (st : RS) (d : Nd) : RS × Int := ((st.want l [59]).put d, (st.want l [59]).fV d)
def y7 (l : List Tok) (st : RS) : RS × Int :=
 let e := jy l ((st.name l).want l [61])
 kE l e.1 (nd 12 [e.2] 0 (st.cr l) (st.now l).pos)
def nn (l : List Tok) (kind : Int) (p : Nat) (st : RS) : RS × Int :=
 let e := jy l st
 kE l e.1 (nd kind [e.2] 0 [] p)
def jK (l : List Tok) (st : RS) : RS × Int :=
 let n := st.name l
 let p : Int := (st.now l).pos
 if n.is l [40] then
  let a := sf l n
  let c := nd 11 a.2 0 (st.cr l) p
  kE l (a.1.put c) (nd 22 [a.1.fV c] 0 [] p)
 else if n.is l [91] then
  let i := ze l [91] [93] n
  let e := jy l (i.1.want l [61])
  kE l e.1 (nd 14 [i.2, e.2] 0 (st.cr l) (n.now l).pos)
 else
  let e := jy l (n.want l [61])
  kE l e.1 (nd 13 [e.2] 0 (st.cr l) p)
inductive PC where
 | stmt
 | block
 | kr (out : List Int)
 | rA (out : List Int)
 | func
 | rR (out : List Int)
def BI (x : RS × Int) : RS × List Int := (x.1, [x.2])
def uv (st : RS) (d : Nd) : Option (RS × List Int) := some (st.put d, [st.fV d])
def Ur (l : List Tok) (go : RS -> Option (RS × List Int)) (p : Nat) (st : RS) : Option (RS × List Int) :=
 let e := jy l st
 (go e.1).bind fun b => if b.1.is l P5 then (go b.1.next).bind fun c => uv c.1 (nd 15 (e.2 :: b.2 ++ c.2) 0 [] p) else uv b.1 (nd 15 (e.2 :: b.2) 0 [] p)
def uD (l : List Tok) (go : RS -> Option (RS × List Int)) (p : Nat) (st : RS) : Option (RS × List Int) :=
 let e := jy l st
 (go e.1).bind fun b => uv b.1 (nd 16 (e.2 :: b.2) 0 [] p)
def JT (l : List Tok) (go : RS -> Option (RS × List Int)) (st : RS) : Option (RS × List Int) :=
 let e := jy l ((st.name l).want l [61])
 let f := jy l (e.1.want l [44])
 (go f.1).bind fun b => uv b.1 (nd 17 (e.2 :: f.2 :: b.2) 0 (st.cr l) (st.now l).pos)
def lR (l : List Tok) : Nat -> PC -> RS -> Option (RS × List Int)
 | 0, _, _ => none
 | k + 1, .stmt, st =>
  let p := (st.now l).pos
  if st.is l Oh then some (BI (y7 l st.next))
  else if st.is l Ws then Ur l (lR l k .block) p st.next
  else if st.is l Av then uD l (lR l k .block) p st.next
  else if st.is l Oi then JT l (lR l k .block) st.next
  else if st.is l Ax then some (BI (kE l st.next (nd 18 [] 0 [] p)))
  else if st.is l oJ then some (BI (kE l st.next (nd 19 [] 0 [] p)))
  else if st.is l vw then some (BI (nn l 20 p st.next))
  else if st.is l DR then some (BI (nn l 21 p st.next))
  else some (BI (jK l st))
 | k + 1, .block, st =>
  let p : Int := (st.now l).pos
  if st.is l [123] then
   if (st.next.open p).fe = 0 then (lR l k (.kr []) (st.next.open p)).bind fun b => uv b.1.close (nd 23 b.2 0 [] p)
   else some (st.next.open p, [-1])
  else some (st.fail 8 p, [-1])
 | k + 1, .kr out, st =>
  if st.is l [125] then some (st.next, out)
  else (lR l k .stmt st).bind fun b => if b.1.fe = 0 then lR l k (.kr (out ++ b.2)) b.1 else some (b.1, out ++ b.2)
 | k + 1, .rA out, st =>
  if st.fe = 0 then
   let p : Int := (st.now l).pos
   let s1 := if out.length = 8 then (st.name l).fail 3 p else st.name l
   let kd := jm l s1
   let d := nd 24 [] kd.2 (st.cr l) p
   if (kd.1.put d).is l [44] then lR l k (.rA (out ++ [kd.1.fV d])) (kd.1.put d).next else some (kd.1.put d, out ++ [kd.1.fV d])
  else some (st, out)
 | k + 1, .func, st =>
  let s0 := st.want l Aw
  let s1 := (s0.name l).want l [40]
  (if s1.is l [41] then some (s1, []) else lR l k (.rA []) s1).bind fun a =>
   let kd := jm l (a.1.want l [41])
   (lR l k .block kd.1).bind fun b => uv b.1 (nd 25 (a.2 ++ b.2) kd.2 (s0.cr l) (s0.now l).pos)
 | k + 1, .rR out, st =>
  if st.fe = 0 /\ (st.now l).kind ≠ 0 then
   let s0 := if out.length = 200 /\ st.is l Aw then st.fail 3 (st.now l).pos else st
   (lR l k .func s0).bind fun b => if b.1.fe = 0 then lR l k (.rR (out ++ b.2)) b.1 else some (b.1, out ++ b.2)
  else some (st, out)
def PC.bi : PC -> Nat
 | .stmt => 1 | .block => 0 | .kr _ => 2 | .rA _ => 0 | .func => 1 | .rR _ => 2
def PC.may (st : RS) : PC -> Prop
 | .kr out => st.fe = 0 /\ out.length <= st.pos
 | .rA out => out.length <= 8
 | .rR out => out.length <= st.pos
 | _ => True
def PC.TT (s1 : RS) : PC -> List Int -> Prop
 | .kr _, r => r.length <= s1.pos + 1
 | .rA _, r => r.length <= 9
 | .rR _, r => r.length <= s1.pos + 1
 | _, r => r.length = 1
def PC.more (st s1 : RS) : PC -> Prop
 | .stmt => s1.fe = 0 -> st.pos < s1.pos
 | .func => s1.fe = 0 -> st.pos < s1.pos
 | _ => True
section
variable {l : List Tok} {st s1 : RS}
theorem kX (ht : bS l) (hp : st.pos < l.length) : ∃ k r, gF l k .expr st = some ((jy l st).1, r) /\ 8 * (l.length - st.pos) + gP.expr.bi < k /\ (jy l st).2 = r.headD 0 /\ Gr l st (jy l st).1 /\ r.length = 1 := by
 obtain ⟨s1, r, e, g, a, _⟩ := go_ok ht (8 * (l.length - st.pos) + 5) .expr st hp (by simp only [gP.bi]; omega) trivial
 have q : jy l st = (s1, r.headD 0) := by unfold jy; rw [e]
 exact ⟨_, r, by rw [q]; exact e, by simp only [gP.bi]; omega, by rw [q], by rw [q]; exact g, a⟩
theorem EA (ht : bS l) (hp : st.pos < l.length) (a z : bK) : ∃ k r, gF l k (.inner a z) st = some ((ze l a z st).1, r) /\ 8 * (l.length - st.pos) + (gP.inner a z).bi < k /\ (ze l a z st).2 = r.headD 0 /\ Gr l st (ze l a z st).1 /\ r.length = 1 := by
 obtain ⟨s1, r, e, g, ar, _⟩ := go_ok ht (8 * (l.length - st.pos) + 1) (.inner a z) st hp (by simp only [gP.bi]; omega) trivial
 have q : ze l a z st = (s1, r.headD 0) := by unfold ze; rw [e]
 exact ⟨_, r, by rw [q]; exact e, by simp only [gP.bi]; omega, by rw [q], by rw [q]; exact g, ar⟩
theorem Iw (ht : bS l) (hp : st.pos < l.length) : ∃ k, gF l k .args st = some ((sf l st).1, (sf l st).2) /\ 8 * (l.length - st.pos) + gP.args.bi < k /\ Gr l st (sf l st).1 /\ (sf l st).2.length <= 9 := by
 obtain ⟨s1, r, e, g, ar, _⟩ := go_ok ht (8 * (l.length - st.pos) + 1) .args st hp (by simp only [gP.bi]; omega) trivial
 have q : sf l st = (s1, r) := by unfold sf; rw [e]
 exact ⟨_, by rw [q]; exact e, by simp only [gP.bi]; omega, by rw [q]; exact g, by rw [q]; exact ar⟩
theorem TD (h : st.fe ≠ 0) {e p : Int} : st.fail e p = st := if_neg h
theorem Qt (h : st.fe ≠ 0) {d : Nd} : st.put d = st := by
 have h0 : st.nM d = st := by
  unfold RS.nM; split
  ·exact TD h
  ·rfl
 unfold RS.put; rw [h0]; exact if_neg h
theorem ol {d : Nd} : (st.put d).pos = st.pos := by unfold RS.put RS.nM; split <;> split <;> first | rfl | exact c6.1
theorem xG {d : Nd} (h : (st.put d).fe = 0) : st.fe = 0 := Gb fun q => q (by rwa [Qt q] at h)
theorem Gr.lay (h : Gr l st s1) (h1 : s1.fe = 0 -> s1.tree.length + st.pos + 1 <= st.tree.length + s1.pos) {d : Nd} : Gr l st (s1.put d) := by
 by_cases q : s1.fe = 0
 ·exact h.put (h1 q)
 ·rw [Qt q]; exact h
theorem Gr.name (ht : bS l) (h : st.pos < l.length) : Gr l st (st.name l) := by
 unfold RS.name; split
 ·rename_i q; exact .next (qg ht h (by have := q.2; omega))
 ·exact .fail h (by decide)
theorem CE : (st.name l).tree = st.tree /\ (st.name l).deep = st.deep /\ ((st.name l).fe = 0 -> (st.name l).pos = st.pos + 1) := by
 unfold RS.name; split
 ·exact ⟨rfl, rfl, fun _ => rfl⟩
 ·exact ⟨c6.2.2.1, c6.2.1, fun q => absurd q (ej (by decide))⟩
theorem BY {s : bK} : (st.want l s).fe = 0 -> (st.want l s).pos = st.pos + 1 := by
 unfold RS.want; split
 ·exact fun _ => rfl
 ·exact fun q => absurd q (ej (by decide))
theorem pj (ht : bS l) (h : st.pos < l.length) : Gr l st (jm l st).1 /\ (jm l st).1.tree = st.tree /\ 0 <= (jm l st).2 /\ (jm l st).2 <= 3 := by
 unfold jm
 split
 ·rename_i q; exact ⟨.next (is_lt ht h q), rfl, by simp, by simp⟩
 ·split
  ·rename_i q; exact ⟨.next (is_lt ht h q), rfl, by simp, by simp⟩
  ·split
   ·rename_i q; exact ⟨.next (is_lt ht h q), rfl, by simp, by simp⟩
   ·exact ⟨.fail h (by decide), c6.2.2.1, by simp, by simp⟩
theorem oD (ht : bS l) (g : Gr l st s1) (d : Nd) : Gr l st (kE l s1 d).1 /\ ((kE l s1 d).1.fe = 0 -> st.pos < (kE l s1 d).1.pos) := by
 have gw := Gr.want ht g.pl (s := [59])
 refine ⟨(g.trans gw).lay fun q => ?_, fun q => ?_⟩
 ·have h1 := BY q
  have h2 := g.t
  rw [rh.2]; omega
 ·have h1 := BY (xG q)
  have h2 := g.p
  show st.pos < (RS.put _ d).pos
  rw [ol]; omega
theorem MZ (ht : bS l) (hp : st.pos < l.length) : Gr l st (y7 l st).1 /\ ((y7 l st).1.fe = 0 -> st.pos < (y7 l st).1.pos) := by
 have g1 := Gr.name ht hp
 have g2 := g1.trans (Gr.want ht g1.pl (s := [61]))
 obtain ⟨_, _, _, _, _, g3, _⟩ := kX ht g2.pl
 exact oD ht (g2.trans g3) _
theorem Cz (ht : bS l) (hp : st.pos < l.length) (kind : Int) (p : Nat) : Gr l st (nn l kind p st).1 /\ ((nn l kind p st).1.fe = 0 -> st.pos < (nn l kind p st).1.pos) := by
 obtain ⟨_, _, _, _, _, g3, _⟩ := kX ht hp
 exact oD ht g3 _
theorem Gs (ht : bS l) (hp : st.pos < l.length) : Gr l st (jK l st).1 /\ ((jK l st).1.fe = 0 -> st.pos < (jK l st).1.pos) := by
 have g1 := Gr.name ht hp
 obtain ⟨n1, n2, n3⟩ := CE (st := st) (l := l)
 unfold jK;simp only
 split
 ·rename_i q
  obtain ⟨_, _, _, g2, _⟩ := Iw ht g1.pl
  refine oD ht ((g1.trans g2).lay fun w => ?_) _
  have h1 := n3 q.1
  have h2 := g2.t
  rw [n1] at h2;omega
 ·split
  ·obtain ⟨_, _, _, _, _, g2, _⟩ := EA ht g1.pl [91] [93]
   have g3 := (g1.trans g2).trans (Gr.want ht g2.pl (s := [61]))
   obtain ⟨_, _, _, _, _, g4, _⟩ := kX ht g3.pl
   exact oD ht (g3.trans g4) _
  ·have g3 := g1.trans (Gr.want ht g1.pl (s := [61]))
   obtain ⟨_, _, _, _, _, g4, _⟩ := kX ht g3.pl
   exact oD ht (g3.trans g4) _
end
theorem kU {l : List Tok} (ht : bS l) : ∀ (k : Nat) (c : PC) (st : RS), st.pos < l.length -> 8 * (l.length - st.pos) + c.bi < k -> c.may st -> ∃ s1 r, lR l k c st = some (s1, r) /\ Gr l st s1 /\ c.TT s1 r /\ c.more st s1 := by
 intro k
 induction k with
 | zero => intro c st hp hk; omega
 | succ k ih =>
  intro c st hp hk hm
  cases c with
  | stmt =>
   have tk : ∀ {x : RS × Int}, st.pos + 1 < l.length -> (Gr l st.next x.1 /\ (x.1.fe = 0 -> st.next.pos < x.1.pos)) -> ∃ s1 r, some (BI x) = some (s1, r) /\ Gr l st s1 /\ PC.TT s1 .stmt r /\ PC.more st s1 .stmt := by
    intro x hn ⟨g, q⟩
    exact ⟨_, _, rfl, (Gr.next hn).trans g, rfl, fun w => by have := q w; simp only [RS.next] at this; omega⟩
   -- a block behind tokens Ot ae1 taken
   have de : ∀ {s0 : RS}, st.pos + 1 < l.length -> Gr l st.next s0 -> ∃ s1 r, lR l k .block s0 = some (s1, r) /\ Gr l st.next s1 /\ r.length = 1 := by
    intro s0 hn g
    obtain ⟨s1, r, e, g1, a, _⟩ := ih .block s0 g.pl (by have := g.p; simp only [PC.bi, RS.next] at *; omega) trivial
    exact ⟨s1, r, e, g.trans g1, a⟩
   have lay : ∀ {s0 : RS} (d : Nd), st.pos + 1 < l.length -> Gr l st.next s0 -> ∃ s1 r, uv s0 d = some (s1, r) /\ Gr l st s1 /\ PC.TT s1 .stmt r /\ PC.more st s1 .stmt := by
    intro s0 d hn g
    refine ⟨_, _, rfl, ((Gr.next hn).trans g).lay fun _ => ?_, rfl, fun w => ?_⟩
    ·have := g.t; simp only [RS.next] at this; omega
    ·rw [ol]; have := g.p; simp only [RS.next] at this; omega
   simp only [lR]
   split
   ·rename_i q; have hn := is_lt ht hp q; exact tk hn (MZ ht hn)
   ·split
    ·rename_i q; have hn := is_lt ht hp q
     obtain ⟨_, _, _, _, _, ge, _⟩ := kX (st := st.next) ht hn
     obtain ⟨s1, r, e, g, a⟩ := de hn ge
     simp only [Ur, e, Option.bind_some]
     split
     ·rename_i q2
      obtain ⟨s2, r2, e2, g2, a2⟩ := de hn (g.trans (.next (is_lt ht g.pl q2)))
      simp only [e2, Option.bind_some];exact lay _ hn g2
     ·exact lay _ hn g
    ·split
     ·rename_i q; have hn := is_lt ht hp q
      obtain ⟨_, _, _, _, _, ge, _⟩ := kX (st := st.next) ht hn
      obtain ⟨s1, r, e, g, a⟩ := de hn ge
      simp only [uD, e, Option.bind_some];exact lay _ hn g
     ·split
      ·rename_i q; have hn := is_lt ht hp q
       have g1 : Gr l st.next (st.next.name l) := Gr.name ht hn
       have g2 := g1.trans (Gr.want ht g1.pl (s := [61]))
       obtain ⟨_, _, _, _, _, ge, _⟩ := kX ht g2.pl
       have g3 := g2.trans ge
       have g4 := g3.trans (Gr.want ht g3.pl (s := [44]))
       obtain ⟨_, _, _, _, _, gf, _⟩ := kX ht g4.pl
       obtain ⟨s1, r, e, g, a⟩ := de hn (g4.trans gf)
       simp only [JT, e, Option.bind_some];exact lay _ hn g
      ·split
       ·rename_i q; have hn := is_lt ht hp q; exact tk hn (oD ht (.refl hn) _)
       ·split
        ·rename_i q; have hn := is_lt ht hp q; exact tk hn (oD ht (.refl hn) _)
        ·split
         ·rename_i q; have hn := is_lt ht hp q; exact tk hn (Cz ht hn _ _)
         ·split
          ·rename_i q; have hn := is_lt ht hp q; exact tk hn (Cz ht hn _ _)
          ·obtain ⟨g, q⟩ := Gs ht hp
           exact ⟨_, _, rfl, g, rfl, q⟩
  | block =>
   simp only [lR]
   split
   ·rename_i q
    have hn := is_lt ht hp q
    have go := Gr.open hn (p := ((st.now l).pos : Int))
    obtain ⟨o1, o2, o3⟩ := lE (st := st.next) (p := ((st.now l).pos : Int))
    split
    ·rename_i qf
     obtain ⟨s1, r, e, g, a, _⟩ := ih (.kr []) (st.next.open (st.now l).pos) go.pl (by rw [o1]; simp only [PC.bi, RS.next] at *; omega) ⟨qf, ml _⟩
     have g1 := (go.trans g).close (by have := g.d0; rw [o2] at this; simp only [RS.next] at this; exact this)
     refine ⟨_, _, by simp only [e, Option.bind_some]; rfl, g1.lay fun _ => ?_, by rfl, trivial⟩
     have := g.t; rw [o1, o3] at this; simp only [RS.next, RS.close] at *; omega
    ·exact ⟨_, _, rfl, go, rfl, trivial⟩
   ·exact ⟨_, _, rfl, .fail hp (by decide), rfl, trivial⟩
  | kr out =>
   obtain ⟨hf, hm⟩ := hm
   simp only [lR]
   split
   ·rename_i q
    exact ⟨_, _, rfl, .next (is_lt ht hp q), by show out.length <= _; simp only [RS.next]; omega, trivial⟩
   ·obtain ⟨s1, r, e, g, a, mo⟩ := ih .stmt st hp (by simp only [PC.bi] at *; omega) trivial
    have a : r.length = 1 := a
    simp only [e, Option.bind_some]
    split
    ·rename_i q
     have bn := mo q
     obtain ⟨s2, r2, e2, g2, a2, _⟩ := ih (.kr (out ++ r)) s1 g.pl (by simp only [PC.bi] at *; omega) ⟨q, by rw [jz, a]; omega⟩
     exact ⟨_, _, e2, g.trans g2, a2, trivial⟩
    ·exact ⟨_, _, rfl, g, by show (out ++ r).length <= _; rw [jz, a]; have := g.p; omega, trivial⟩
  | rA out =>
   have hm : out.length <= 8 := hm
   simp only [lR]
   split
   ·rename_i qf
    have g1 := Gr.name ht hp
    obtain ⟨n1, n2, n3⟩ := CE (st := st) (l := l)
    have g0 : Gr l st (if out.length = 8 then (st.name l).fail 3 (st.now l).pos else st.name l) := by
     split
     ·exact g1.trans (.fail g1.pl (by decide))
     ·exact g1
    have t0 : (if out.length = 8 then (st.name l).fail 3 (st.now l).pos else st.name l).tree = st.tree := by
     split
     ·rw [c6.2.2.1, n1]
     ·exact n1
    have f0 : (if out.length = 8 then (st.name l).fail 3 (st.now l).pos else st.name l).fe = 0 -> out.length < 8 /\ st.pos + 1 <= (if out.length = 8 then (st.name l).fail 3 (st.now l).pos else st.name l).pos := by
     split
     ·exact fun q => absurd q (ej (by decide))
     ·intro w; exact ⟨by omega, by rw [n3 w]; exact fy _⟩
    generalize (if out.length = 8 then (st.name l).fail 3 (st.now l).pos else st.name l) = s0 at *
    obtain ⟨g2, t2, _, _⟩ := pj ht g0.pl
    have g3 := (g0.trans g2).lay (d := nd 24 [] (jm l s0).2 (st.cr l) (st.now l).pos) fun w => by
     have := f0 (g2.f w); have := g2.p; rw [t2, t0]; omega
    split
    ·rename_i q
     have hn := is_lt ht g3.pl q
     have hf := f0 (g2.f (xG q.1))
     obtain ⟨s2, r2, e2, g4, a2, _⟩ := ih (.rA (out ++ [(jm l s0).1.fV (nd 24 [] (jm l s0).2 (st.cr l) (st.now l).pos)])) ((jm l s0).1.put (nd 24 [] (jm l s0).2 (st.cr l) (st.now l).pos)).next hn (by have := g3.p; simp only [PC.bi, RS.next] at *; omega) (by show (out ++ [_]).length <= 8; rw [jz, List.length_singleton]; omega)
     exact ⟨_, _, e2, g3.trans ((Gr.next hn).trans g4), a2, trivial⟩
    ·exact ⟨_, _, rfl, g3, by show (out ++ [_]).length <= 9; rw [jz, List.length_singleton]; omega, trivial⟩
   ·exact ⟨_, _, rfl, .refl hp, by show out.length <= 9; omega, trivial⟩
  | func =>
   simp only [lR];have g0 := Gr.want ht hp (s := Aw)
   have w0 := BY (st := st) (l := l) (s := Aw)
   have d0 := (rh (st := st) (l := l) (s := Aw)).2
   generalize st.want l Aw = s0 at *
   have g1 : Gr l s0 (s0.name l) := Gr.name ht g0.pl
   have g2 : Gr l s0 ((s0.name l).want l [40]) := g1.trans (Gr.want ht g1.pl)
   generalize (s0.name l).want l [40] = s1 at *
   have VC : ∃ s2 r, (if s1.is l [41] then some (s1, []) else lR l k (.rA []) s1) = some (s2, r) /\ Gr l s1 s2 /\ r.length <= 9 := by
    split
    ·exact ⟨_, _, rfl, .refl g2.pl, ml _⟩
    ·obtain ⟨s2, r2, e2, g4, a2, _⟩ := ih (.rA []) s1 g2.pl (by have := g0.p; have := g2.p; simp only [PC.bi] at *; omega) (ml _)
     exact ⟨_, _, e2, g4, a2⟩
   obtain ⟨s2, r, e, g3, _⟩ := VC
   simp only [e, Option.bind_some];have g4 := (g2.trans g3).trans (Gr.want ht g3.pl (s := [41]))
   obtain ⟨g5, _⟩ := pj ht g4.pl
   have g6 := g4.trans g5
   obtain ⟨s5, r5, e5, g7, a5, _⟩ := ih .block (jm l (s2.want l [41])).1 g6.pl (by have := g0.p; have := g6.p; simp only [PC.bi] at *; omega) trivial
   simp only [e5, Option.bind_some];have g8 := g6.trans g7
   refine ⟨_, _, rfl, (g0.trans g8).lay fun q => ?_, rfl, fun q => ?_⟩
   ·have h1 := w0 (g8.f q); have := g8.t; rw [d0] at this; omega
   ·have h1 := w0 (g8.f (xG q)); rw [ol]; have := g8.p; omega
  | rR out =>
   have hm : out.length <= st.pos := hm
   simp only [lR]
   split
   ·rename_i qf
    have g0 : Gr l st (if out.length = 200 /\ st.is l Aw then st.fail 3 (st.now l).pos else st) := by
     split
     ·exact .fail hp (by decide)
     ·exact .refl hp
    have p0 : (if out.length = 200 /\ st.is l Aw then st.fail 3 (st.now l).pos else st).pos = st.pos := by
     split
     ·exact c6.1
     ·rfl
    generalize (if out.length = 200 /\ st.is l Aw then st.fail 3 (st.now l).pos else st) = s0 at *
    obtain ⟨s1, r, e, g, a, mo⟩ := ih .func s0 g0.pl (by rw [p0]; simp only [PC.bi] at *; omega) trivial
    have a : r.length = 1 := a
    simp only [e, Option.bind_some];have g1 := g0.trans g
    split
    ·rename_i q
     have bn := mo q
     rw [p0] at bn;obtain ⟨s2, r2, e2, g2, a2, _⟩ := ih (.rR (out ++ r)) s1 g.pl (by simp only [PC.bi] at *; omega) (by show (out ++ r).length <= _; rw [jz, a]; omega)
     exact ⟨_, _, e2, g1.trans g2, a2, trivial⟩
    ·exact ⟨_, _, rfl, g1, by show (out ++ r).length <= _; rw [jz, a]; have := g1.p; omega, trivial⟩
   ·refine ⟨_, _, rfl, .refl hp, ?_, trivial⟩
    show out.length <= st.pos + 1
    omega
end
section
theorem count_range (n : Nat) (a : Int) : ((List.range n).map (fun i : Nat => (i : Int))).count a = JG 0 n a := by
 induction n with
 | zero => simp [JG]
 | succ n ih =>
  rw [List.range_succ, List.map_append, List.count_append, ih, rK (b := n) (ml _) (Nat.le_succ _), HP]
  rfl
theorem Q9 {l : List Tok} {tr : List Nd} {d : Nd} (h : Sg l d) (hk : ∀ x ∈ d.kids, nD (kindOf tr x)) : gJ tr d := by
 have k1 := h.kind
 have kn := h.kn
 have ex : ∀ n, n <= d.kids.length -> kW tr d.kids n := fun n hn => ⟨hn, fun x hx => hk x (List.mem_of_mem_take hx)⟩
 unfold gJ;have bn : d.kind < 12 := by have := k1.2; omega
 by_cases c1 : d.kind = 5 \/ d.kind = 8
 ·rw [if_pos c1] at kn
  rw [if_pos (by rcases c1 with c | c <;> simp [c])]
  exact ⟨kn, ex 2 (by omega)⟩
 ·rw [if_neg c1] at kn
  rw [if_neg (by omega)];by_cases c2 : d.kind = 6 \/ d.kind = 7 \/ d.kind = 9 \/ d.kind = 10
  ·rw [if_pos c2] at kn
   rw [if_pos (by rcases c2 with c | c | c | c <;> simp [c])]
   exact ⟨kn, ex 1 (by omega)⟩
  ·rw [if_neg c2] at kn
   rw [if_neg (by omega)];by_cases c3 : d.kind = 11
   ·rw [if_pos c3] at kn
    rw [if_pos c3];exact ⟨kn, ex _ (fy _)⟩
   ·rw [if_neg c3] at kn
    rw [if_neg c3, if_neg (by omega), if_neg (by omega), if_neg (by omega), if_neg (by omega), if_neg (by omega), if_neg (by omega), if_neg (by omega)];exact kn
theorem Bq {tr YU : List Nd} {d : Nd} (h : ∀ z ∈ d.kids, kindOf tr z = kindOf YU z) (hk : gJ tr d) : gJ YU d := by
 have ex : ∀ n, kW tr d.kids n -> kW YU d.kids n := fun n q => ⟨q.1, fun x hx => by rw [<- h x (List.mem_of_mem_take hx)]; exact q.2 x hx⟩
 have al : ∀ (ks : List Int) (K : Int) (n : Nat), (∀ x ∈ ks, x ∈ d.kids) -> BS tr ks K n -> BS YU ks K n := fun ks K n hs q => ⟨fun x hx => by rw [<- h x (hs x hx)]; exact q.1 x hx, q.2⟩
 unfold gJ at hk ⊢
 by_cases c : d.kind = 5 \/ d.kind = 8 \/ d.kind = 14
 ·rw [if_pos c] at hk ⊢; exact ⟨hk.1, ex _ hk.2⟩
 rw [if_neg c] at hk ⊢; clear c
 by_cases c : d.kind = 6 \/ d.kind = 7 \/ d.kind = 9 \/ d.kind = 10 \/ d.kind = 12 \/ d.kind = 13 \/ d.kind = 20 \/ d.kind = 21
 ·rw [if_pos c] at hk ⊢; exact ⟨hk.1, ex _ hk.2⟩
 rw [if_neg c] at hk ⊢; clear c
 by_cases c : d.kind = 11
 ·rw [if_pos c] at hk ⊢; exact ⟨hk.1, ex _ hk.2⟩
 rw [if_neg c] at hk ⊢; clear c
 by_cases c : d.kind = 15
 ·rw [if_pos c] at hk ⊢; exact ⟨⟨ex _ hk.1.1, hk.1.2⟩, al _ _ _ (fun x => List.mem_of_mem_drop) hk.2⟩
 rw [if_neg c] at hk ⊢; clear c
 by_cases c : d.kind = 16
 ·rw [if_pos c] at hk ⊢; exact ⟨⟨ex _ hk.1.1, hk.1.2⟩, al _ _ _ (fun x => List.mem_of_mem_drop) hk.2⟩
 rw [if_neg c] at hk ⊢; clear c
 by_cases c : d.kind = 17
 ·rw [if_pos c] at hk ⊢; exact ⟨⟨ex _ hk.1.1, hk.1.2⟩, al _ _ _ (fun x => List.mem_of_mem_drop) hk.2⟩
 rw [if_neg c] at hk ⊢; clear c
 by_cases c : d.kind = 22
 ·rw [if_pos c] at hk ⊢; exact ⟨hk.1, fun x hx => by rw [<- h x hx]; exact hk.2 x hx⟩
 rw [if_neg c] at hk ⊢; clear c
 by_cases c : d.kind = 23
 ·rw [if_pos c] at hk ⊢; exact fun x hx => by rw [<- h x hx]; exact hk x hx
 rw [if_neg c] at hk ⊢; clear c
 by_cases c : d.kind = 25
 ·rw [if_pos c] at hk ⊢; exact ⟨⟨hk.1.1, al _ _ _ (fun x => List.mem_of_mem_take) hk.1.2⟩, fun x hx => by rw [<- h x (List.mem_of_mem_getLast? hx)]; exact hk.2 x hx⟩
 rw [if_neg c] at hk ⊢; clear c
 by_cases c : d.kind = 26
 ·rw [if_pos c] at hk ⊢; exact al _ _ _ (fun x hx => hx) hk
 rw [if_neg c] at hk ⊢; exact hk
structure ID (l : List Tok) (tr : List Nd) (d : Nd) : Prop where
 own : Jf d
 kids : gJ tr d
 pos : ∃ t ∈ l, d.pos = (t.pos : Int)
def dV (tr : List Nd) (x : Int) (K : Int -> Prop) : Prop := 0 <= x /\ x < (tr.length : Int) /\ K (kindOf tr x)
theorem xM {tr n : List Nd} {x : Int} (h0 : 0 <= x) (h : x < (tr.length : Int)) : kindOf (tr ++ n) x = kindOf tr x := by
 unfold kindOf; rw [BC (by omega)]
theorem dV.app {tr n : List Nd} {x : Int} {K : Int -> Prop} (h : dV tr x K) : dV (tr ++ n) x K :=
 ⟨h.1, by rw [jz]; have := h.2.1; omega, by rw [xM h.1 h.2.1]; exact h.2.2⟩
structure PP (l : List Tok) (st s1 : RS) (r : List Int) : Prop where
 inv : TI l s1
 ok : s1.fe = 0 -> st.fe = 0 /\ ∃ new, s1.tree = st.tree ++ new /\ (∀ d ∈ new, ID l s1.tree d) /\ ∀ a, E1 new a + r.count a = JG st.tree.length s1.tree.length a
section
variable {l : List Tok} {st st' s1 K4 s2 : RS} {r r' : List Int} {K : Int -> Prop} {x : Int}
theorem PP.val (h : PP l st s1 r) (hf : s1.fe = 0) (hx : x ∈ r) : (st.tree.length : Int) <= x /\ x < (s1.tree.length : Int) := by
 obtain ⟨_, new, hn, _, hc⟩ := h.ok hf
 have h1 := hc x
 have h2 : 0 < r.count x := List.count_pos_iff.2 hx
 unfold JG at h1
 split at h1
 ·assumption
 ·omega
theorem PP.grow (h : PP l st s1 r) (hf : s1.fe = 0) : st.fe = 0 /\ ∃ n, s1.tree = st.tree ++ n := by
 obtain ⟨h0, new, hn, _⟩ := h.ok hf; exact ⟨h0, new, hn⟩
theorem dV.pp (k : dV s1.tree x K) (h : PP l s1 s2 r) (hf : s2.fe = 0) : dV s2.tree x K := by
 obtain ⟨_, n, hn⟩ := h.grow hf; rw [hn]; exact k.app
theorem PP.refl (h : TI l st) : PP l st st [] := ⟨h, fun q => ⟨q, [], by simp, by simp, fun a => by rw [Ke, JF]; rfl⟩⟩
theorem PP.bad (h : TI l s1) (h0 : s1.fe ≠ 0) : PP l st s1 r := ⟨h, fun q => absurd q h0⟩
theorem PP.A6 (h : PP l st s1 r) (hi : TI l K4) (h0 : st.fe = 0 -> st'.fe = 0 /\ st'.tree = st.tree) (h2 : K4.fe = 0 -> s1.fe = 0 /\ K4.tree = s1.tree) : PP l st' K4 r := by
 refine ⟨hi, fun q => ?_⟩
 obtain ⟨q1, q2⟩ := h2 q
 obtain ⟨p0, n1, e1, d1, c1⟩ := h.ok q1
 obtain ⟨p1, p2⟩ := h0 p0
 exact ⟨p1, n1, by rw [q2, p2, e1], by rw [q2]; exact d1, fun a => by rw [q2, p2]; exact c1 a⟩
theorem PP.to (h : PP l st s1 r) (hi : TI l K4) (h2 : K4.fe = 0 -> s1.fe = 0 /\ K4.tree = s1.tree) : PP l st K4 r := h.A6 hi (fun q => ⟨q, rfl⟩) h2
theorem Gp {n1 : List Nd} {tr n : List Nd} (hk : tf tr) {d : Nd} (hd : d ∈ tr) (h : ID l tr d) : ID l (tr ++ n) d := by
 refine ⟨h.own, Bq (fun z hz => ?_) h.kids, h.pos⟩
 obtain ⟨i, hi⟩ := List.mem_iff_getElem?.1 hd
 have h1 := hk i d hi z hz
 have h2 := (uz.1 hi).1
 rw [xM h1.1 (by omega)]
theorem PP.trans (h : PP l st s1 r) (h' : PP l s1 s2 r') : PP l st s2 (r ++ r') := by
 refine ⟨h'.inv, fun q => ?_⟩
 obtain ⟨h1, n2, e2, d2, c2⟩ := h'.ok q
 obtain ⟨h0, n1, e1, d1, c1⟩ := h.ok h1
 refine ⟨h0, n1 ++ n2, by rw [e2, e1, List.append_assoc], fun d hd => ?_, fun a => ?_⟩
 ·rcases yb.1 hd with hd | hd
  ·rw [e2]; exact Gp (n1 := []) (h.inv.t h1).lt (by rw [e1]; exact List.mem_append_right _ hd) (d1 d hd)
  ·exact d2 d hd
 ·have := c1 a; have := c2 a
  have l1 : s1.tree.length = st.tree.length + n1.length := by rw [e1, jz]
  have l2 : s2.tree.length = s1.tree.length + n2.length := by rw [e2, jz]
  rw [z5, rK (b := s1.tree.length) (by omega) (by omega), List.count_append];omega
theorem PP.put {d : Nd} (h : PP l st s1 r) (hp : ∃ t ∈ l, d.pos = (t.pos : Int)) (hd : s1.fe = 0 -> Jf d /\ gJ s1.tree d) (hk : ∀ a, d.kids.count a = r.count a) :
  PP l st (s1.put d) [s1.fV d] /\ ((s1.put d).fe = 0 -> s1.fe = 0 /\ dV (s1.put d).tree (s1.fV d) (· = d.kind)) := by
 have EG : s1.fe = 0 -> ∀ z ∈ d.kids, 0 <= z /\ z < (s1.tree.length : Int) := fun q z hz => by
  have h2 : 0 < d.kids.count z := List.count_pos_iff.2 hz
  rw [hk z] at h2;have := h.val q (List.count_pos_iff.1 h2)
  omega
 obtain ⟨g1, g2⟩ := MG (st := s1) h.inv hp EG
 refine ⟨⟨g1, fun q => ?_⟩, fun q => ?_⟩
 ·obtain ⟨p0, p1, p2⟩ := g2 q
  obtain ⟨h0, new, hn, dn, hc⟩ := h.ok p0
  have hlen : s1.tree.length = st.tree.length + new.length := by rw [hn, jz]
  refine ⟨h0, new ++ [d], by rw [p1, hn, List.append_assoc], fun e he => ?_, fun a => ?_⟩
  ·rw [p1]
   rcases yb.1 he with he | he
   ·exact Gp (n1 := []) (h.inv.t p0).lt (by rw [hn]; exact List.mem_append_right _ he) (dn e he)
   ·rw [DL.1 he]
    exact ⟨(hd p0).1, Bq (fun z hz => by have := EG p0 z hz; rw [xM this.1 this.2]) (hd p0).2, hp⟩
  ·rw [z5, Kd, hk, p2, p1, jz, List.length_singleton, rK (b := s1.tree.length) (by omega) (by omega), HP]
   have := hc a
   omega
 ·obtain ⟨p0, p1, p2⟩ := g2 q
  refine ⟨p0, ?_⟩
  rw [p1, p2];refine ⟨by omega, by rw [jz, List.length_singleton]; omega, ?_⟩
  show kindOf _ _ = _
  unfold kindOf;rw [Int.toNat_natCast, FA (fy _), Nat.sub_self]; rfl
theorem PP.of (h : im l [] st s1 r) : PP l st s1 r /\ (s1.fe = 0 -> ∀ x ∈ r, dV s1.tree x nD) := by
 have key : s1.fe = 0 -> ∀ a, 0 < JG st.tree.length s1.tree.length a -> dV s1.tree a nD := by
  intro q a ha
  obtain ⟨h0, new, hn, dn, hc⟩ := h.ok q
  unfold JG at ha
  split at ha
  ·rename_i hr
   have bn : a.toNat < s1.tree.length := by omega
   refine ⟨by omega, hr.2, ?_⟩
   unfold kindOf;rw [nc bn];refine (dn _ ?_).kind
   have e : s1.tree[a.toNat]? = new[a.toNat - st.tree.length]? := by rw [hn, FA (by omega)]
   rw [nc bn] at e;exact List.mem_of_getElem? e.symm
  ·omega
 refine ⟨⟨h.inv, fun q => ?_⟩, fun q x hx => key q x ?_⟩
 ·obtain ⟨h0, new, hn, dn, hc⟩ := h.ok q
  refine ⟨h0, new, hn, fun d hd => ⟨(dn d hd).own, Q9 (dn d hd) fun z hz => (key q z ?_).2.2, (dn d hd).pos⟩, fun a => by have := hc a; simp only [List.count_nil] at this; omega⟩
  have h1 : 0 < E1 new z := List.count_pos_iff.2 (List.mem_flatten.2 ⟨d.kids, List.mem_map.2 ⟨d, hd, rfl⟩, hz⟩)
  have := hc z; simp only [List.count_nil] at this; omega
 ·obtain ⟨h0, new, hn, dn, hc⟩ := h.ok q
  have h1 : 0 < r.count x := List.count_pos_iff.2 hx
  have := hc x; simp only [List.count_nil] at this; omega
variable (ht : bS l) (hg : ∀ t ∈ l, t.kind = 1 -> t.text ≠ [] /\ rE t.text)
include ht hg
theorem Bu (hp : st.pos < l.length) (hT : TI l st) : PP l st (jy l st).1 [(jy l st).2] /\ ((jy l st).1.fe = 0 -> dV (jy l st).1.tree (jy l st).2 nD) := by
 obtain ⟨k, r, e, hk, hv, _, h1⟩ := kX ht hp
 obtain ⟨p, _⟩ := RF ht.pos hg _ _ _ _ _ e hT xd.nil trivial
 obtain ⟨y, rfl⟩ := iY h1
 obtain ⟨q1, q2⟩ := PP.of p
 rw [hv];exact ⟨q1, fun q => q2 q _ (by simp)⟩
theorem Xz (hp : st.pos < l.length) (hT : TI l st) (a z : bK) : PP l st (ze l a z st).1 [(ze l a z st).2] /\ ((ze l a z st).1.fe = 0 -> dV (ze l a z st).1.tree (ze l a z st).2 nD) := by
 obtain ⟨k, r, e, hk, hv, _, h1⟩ := EA ht hp a z
 obtain ⟨p, _⟩ := RF ht.pos hg _ _ _ _ _ e hT xd.nil trivial
 obtain ⟨y, rfl⟩ := iY h1
 obtain ⟨q1, q2⟩ := PP.of p
 rw [hv];exact ⟨q1, fun q => q2 q _ (by simp)⟩
theorem YO (hp : st.pos < l.length) (hT : TI l st) : PP l st (sf l st).1 (sf l st).2 /\ ((sf l st).1.fe = 0 -> (sf l st).2.length <= 8 /\ ∀ x ∈ (sf l st).2, dV (sf l st).1.tree x nD) := by
 obtain ⟨k, e, hk, _, h1⟩ := Iw ht hp
 obtain ⟨p, n⟩ := RF ht.pos hg _ _ _ _ _ e hT xd.nil trivial
 obtain ⟨q1, q2⟩ := PP.of p
 exact ⟨q1, fun q => ⟨n q, q2 q⟩⟩
end
end
section
theorem kO {l : List Tok} {kind n : Int} {kids : List Int} {s : bK} {p : Nat} (h1 : 1 <= kind /\ kind <= 26) (h2 : kind ∈ Lq ↔ s ≠ []) (h3 : s ≠ [] -> rE s) (h4 : if kind = 1 then 0 <= n else if kind = 2 then n = 0 \/ n = 1 else if kind = 5 then 1 <= n /\ n <= 16 else if kind = 24 \/ kind = 25 then 1 <= n /\ n <= 3 else n = 0) : Jf (nd kind kids n s (p : Int)) := by
 refine ⟨?_, fun q => q.2 (h3 q.1), h4⟩
 rintro ((q | q) | q)
 ·simp only [nd] at q; omega
 ·simp only [nd] at q; omega
 ·exact q h2
theorem Ra {tr : List Nd} {kind x n p : Int} {s : bK} (hk : kind = 12 \/ kind = 13 \/ kind = 20 \/ kind = 21) (h : nD (kindOf tr x)) : gJ tr (nd kind [x] n s p) := by
 rcases hk with rfl | rfl | rfl | rfl <;> simp [gJ, nd, kW, h]
theorem Um {tr : List Nd} {kind n p : Int} {s : bK} (hk : kind = 18 \/ kind = 19 \/ kind = 24) : gJ tr (nd kind [] n s p) := by
 rcases hk with rfl | rfl | rfl <;> simp [gJ, nd]
theorem dV.SH {tr : List Nd} {x k : Int} (h : dV tr x (· = k)) (hk : j9 k) : dV tr x j9 := ⟨h.1, h.2.1, (show kindOf tr x = k from h.2.2) ▸ hk⟩
section
variable {l : List Tok} {st s1 : RS} {r : List Int}
theorem TI.name (hl : 0 < l.length) (h : TI l st) : TI l (st.name l) := by
 unfold RS.name; split
 ·exact h.next
 ·exact h.fail (by decide) ⟨_, lI hl, rfl⟩
theorem CD (h : (st.name l).fe = 0) : st.fe = 0 /\ (st.name l).tree = st.tree /\ st.np l := by
 unfold RS.name at h ⊢
 split at h
 ·rename_i q; rw [if_pos q]; exact ⟨h, rfl, q⟩
 ·exact absurd h (ej (by decide))
theorem TI.kd (hl : 0 < l.length) (h : TI l st) : TI l (jm l st).1 := by
 unfold jm; split
 ·exact h.next
 ·split
  ·exact h.next
  ·split
   ·exact h.next
   ·exact h.fail (by decide) ⟨_, lI hl, rfl⟩
theorem Gx (h : (jm l st).1.fe = 0) : st.fe = 0 /\ (jm l st).1.tree = st.tree /\ 1 <= (jm l st).2 /\ (jm l st).2 <= 3 := by
 unfold jm at h ⊢
 split at h
 ·rename_i q; rw [if_pos q]; exact ⟨h, rfl, by simp, by simp⟩
 ·rename_i q; rw [if_neg q]
  split at h
  ·rename_i q; rw [if_pos q]; exact ⟨h, rfl, by simp, by simp⟩
  ·rename_i q; rw [if_neg q]
   split at h
   ·rename_i q; rw [if_pos q]; exact ⟨h, rfl, by simp, by simp⟩
   ·exact absurd h (ej (by decide))
theorem PP.want (hl : 0 < l.length) (h : PP l st s1 r) {s : bK} : PP l st (s1.want l s) r := h.to (h.inv.want hl) jA
theorem PP.name (hl : 0 < l.length) (h : PP l st s1 r) : PP l st (s1.name l) r := h.to (h.inv.name hl) fun q => ⟨(CD q).1, (CD q).2.1⟩
theorem PP.kd (hl : 0 < l.length) (h : PP l st s1 r) : PP l st (jm l s1).1 r := h.to (h.inv.kd hl) fun q => ⟨(Gx q).1, (Gx q).2.1⟩
theorem AZ (hl : 0 < l.length) (h : PP l st s1 r) {d : Nd} (hp : ∃ t ∈ l, d.pos = (t.pos : Int)) (hd : s1.fe = 0 -> Jf d /\ gJ s1.tree d) (hk : ∀ a, d.kids.count a = r.count a) :
  PP l st (kE l s1 d).1 [(kE l s1 d).2] /\ ((kE l s1 d).1.fe = 0 -> dV (kE l s1 d).1.tree (kE l s1 d).2 (· = d.kind)) := by
 obtain ⟨q1, q2⟩ := (h.want hl (s := [59])).put hp (fun q => by obtain ⟨a, b⟩ := jA q; rw [b]; exact hd a) hk
 exact ⟨q1, fun q => (q2 q).2⟩
variable (ht : bS l) (hg : ∀ t ∈ l, t.kind = 1 -> t.text ≠ [] /\ rE t.text)
include ht hg
theorem mz (h : (st.name l).fe = 0) : st.cr l ≠ [] /\ rE (st.cr l) := by
 obtain ⟨_, _, q⟩ := CD h
 unfold RS.cr; rw [if_pos q]
 exact hg _ (lI ht.pos) q.2
theorem Vk (hp : st.pos < l.length) (hT : TI l st) : PP l st (y7 l st).1 [(y7 l st).2] /\ ((y7 l st).1.fe = 0 -> dV (y7 l st).1.tree (y7 l st).2 j9) := by
 have hl := ht.pos
 have g1 := Gr.name ht hp
 have g2 := g1.trans (Gr.want ht g1.pl (s := [61]))
 have p2 := ((PP.refl hT).name hl).want hl (s := [61])
 obtain ⟨q1, q2⟩ := Bu ht hg g2.pl p2.inv
 have p3 := p2.trans q1
 obtain ⟨e1, e2⟩ := AZ hl p3 (d := nd 12 [(jy l ((st.name l).want l [61])).2] 0 (st.cr l) (st.now l).pos) ⟨_, lI hl, rfl⟩ (fun q => by
  have h1 := (q1.grow q).1
  obtain ⟨h2, _⟩ := jA h1
  obtain ⟨h3, h4⟩ := mz ht hg h2
  exact ⟨kO (l := l) ⟨by decide, by decide⟩ ⟨fun _ => h3, fun _ => by decide⟩ (fun _ => h4) rfl, Ra (.inl rfl) (q2 q).2.2⟩) (fun a => rfl)
 exact ⟨e1, fun q => (e2 q).SH (by simp [j9, nd])⟩
theorem QA {p : Nat} (dx : ∃ t ∈ l, (p : Int) = (t.pos : Int)) {kind : Int} (hk : kind = 20 \/ kind = 21) (hp : st.pos < l.length) (hT : TI l st) : PP l st (nn l kind p st).1 [(nn l kind p st).2] /\ ((nn l kind p st).1.fe = 0 -> dV (nn l kind p st).1.tree (nn l kind p st).2 j9) := by
 have hl := ht.pos
 obtain ⟨q1, q2⟩ := Bu ht hg hp hT
 obtain ⟨e1, e2⟩ := AZ hl q1 (d := nd kind [(jy l st).2] 0 [] p) dx (fun q => by
  refine ⟨?_, Ra (by omega) (q2 q).2.2⟩
  rcases hk with rfl | rfl <;> exact kO (l := l) ⟨by decide, by decide⟩ (by decide) (fun q => absurd rfl q) rfl) (fun a => rfl)
 refine ⟨e1, fun q => (e2 q).SH ?_⟩
 rcases hk with rfl | rfl <;> simp [j9, nd]
theorem N5 {p : Nat} (dx : ∃ t ∈ l, (p : Int) = (t.pos : Int)) {kind : Int} (hk : kind = 18 \/ kind = 19) (hT : TI l st) : PP l st (kE l st (nd kind [] 0 [] p)).1 [(kE l st (nd kind [] 0 [] p)).2] /\ ((kE l st (nd kind [] 0 [] p)).1.fe = 0 -> dV (kE l st (nd kind [] 0 [] p)).1.tree (kE l st (nd kind [] 0 [] p)).2 j9) := by
 have hl := ht.pos
 obtain ⟨e1, e2⟩ := AZ hl (PP.refl hT) (d := nd kind [] 0 [] p) dx (fun q => by
  refine ⟨?_, Um (by omega)⟩
  rcases hk with rfl | rfl <;> exact kO (l := l) ⟨by decide, by decide⟩ (by decide) (fun q => absurd rfl q) rfl) (fun a => rfl)
 refine ⟨e1, fun q => (e2 q).SH ?_⟩
 rcases hk with rfl | rfl <;> simp [j9, nd]
theorem QO (hp : st.pos < l.length) (hT : TI l st) : PP l st (jK l st).1 [(jK l st).2] /\ ((jK l st).1.fe = 0 -> dV (jK l st).1.tree (jK l st).2 j9) := by
 have hl := ht.pos
 have g1 := Gr.name ht hp
 have p1 := (PP.refl hT).name hl
 have dx : ∃ t ∈ l, ((st.now l).pos : Int) = (t.pos : Int) := ⟨_, lI hl, rfl⟩
 unfold jK;simp only
 split
 ·rename_i hq
  obtain ⟨q1, q2⟩ := YO ht hg g1.pl p1.inv
  have p2 := p1.trans q1
  have hn := mz ht hg hq.1
  obtain ⟨c1, c2⟩ := p2.put (d := nd 11 (sf l (st.name l)).2 0 (st.cr l) (st.now l).pos) dx (fun q => by
   refine ⟨kO (l := l) ⟨by decide, by decide⟩ ⟨fun _ => hn.1, fun _ => by decide⟩ (fun _ => hn.2) rfl, ?_⟩
   obtain ⟨a1, a2⟩ := q2 q
   have : kW (sf l (st.name l)).1.tree (sf l (st.name l)).2 (sf l (st.name l)).2.length := ⟨fy _, fun x hx => (a2 x (List.mem_of_mem_take hx)).2.2⟩
   simp [gJ, nd, a1, this]) (fun a => rfl)
  obtain ⟨e1, e2⟩ := AZ hl c1 (d := nd 22 [(sf l (st.name l)).1.fV (nd 11 (sf l (st.name l)).2 0 (st.cr l) (st.now l).pos)] 0 [] (st.now l).pos) dx (fun q => by
   refine ⟨kO (l := l) ⟨by decide, by decide⟩ (by decide) (fun q => absurd rfl q) rfl, ?_⟩
   have := (c2 q).2.2.2
   simp only [nd] at this;simp [gJ, nd, this]) (fun a => rfl)
  exact ⟨e1, fun q => (e2 q).SH (by simp [j9, nd])⟩
 ·split
  ·rename_i hq
   obtain ⟨q1, q2⟩ := Xz ht hg g1.pl p1.inv [91] [93]
   have p2 := (p1.trans q1).want hl (s := [61])
   obtain ⟨_, _, _, _, _, g2, _⟩ := EA ht g1.pl [91] [93]
   have g3 := (g1.trans g2).trans (Gr.want ht g2.pl (s := [61]))
   obtain ⟨q3, q4⟩ := Bu ht hg g3.pl p2.inv
   have hn := mz ht hg hq.1
   have p3 := p2.trans q3
   obtain ⟨e1, e2⟩ := AZ hl p3 (d := nd 14 [(ze l [91] [93] (st.name l)).2, (jy l ((ze l [91] [93] (st.name l)).1.want l [61])).2] 0 (st.cr l) ((st.name l).now l).pos) ⟨_, lI hl, rfl⟩ (fun q => by
    refine ⟨kO (l := l) ⟨by decide, by decide⟩ ⟨fun _ => hn.1, fun _ => by decide⟩ (fun _ => hn.2) rfl, ?_⟩
    have h1 := (q3.grow q).1
    obtain ⟨h2, h3⟩ := jA h1
    have k1 : dV ((ze l [91] [93] (st.name l)).1.want l [61]).tree (ze l [91] [93] (st.name l)).2 nD := by rw [h3]; exact q2 h2
    have k1 := (k1.pp q3 q).2.2
    have k2 := (q4 q).2.2
    simp [gJ, nd, kW, k1, k2]) (fun a => by simp [nd, List.count_cons])
   exact ⟨e1, fun q => (e2 q).SH (by simp [j9, nd])⟩
  ·have p2 := p1.want hl (s := [61])
   have g3 := g1.trans (Gr.want ht g1.pl (s := [61]))
   obtain ⟨q3, q4⟩ := Bu ht hg g3.pl p2.inv
   have p3 := p2.trans q3
   obtain ⟨e1, e2⟩ := AZ hl p3 (d := nd 13 [(jy l ((st.name l).want l [61])).2] 0 (st.cr l) (st.now l).pos) dx (fun q => by
    obtain ⟨h2, _⟩ := jA (q3.grow q).1
    have hn := mz ht hg h2
    exact ⟨kO (l := l) ⟨by decide, by decide⟩ ⟨fun _ => hn.1, fun _ => by decide⟩ (fun _ => hn.2) rfl, Ra (.inr (.inl rfl)) (q4 q).2.2⟩) (fun a => rfl)
   exact ⟨e1, fun q => (e2 q).SH (by simp [j9, nd])⟩
end
end
section
def PC.post (l : List Tok) (st s1 : RS) : PC -> List Int -> Prop
 | .stmt, r => PP l st s1 r /\ r.length = 1 /\ (s1.fe = 0 -> ∀ x ∈ r, dV s1.tree x j9)
 | .block, r => PP l st s1 r /\ r.length = 1 /\ (s1.fe = 0 -> ∀ x ∈ r, dV s1.tree x (· = 23))
 | .func, r => PP l st s1 r /\ r.length = 1 /\ (s1.fe = 0 -> (∀ x ∈ r, dV s1.tree x (· = 25)) /\ (st.want l Aw).fe = 0)
 | .kr out, r => ∃ r', r = out ++ r' /\ PP l st s1 r' /\ (s1.fe = 0 -> ∀ x ∈ r', dV s1.tree x j9)
 | .rA out, r => ∃ r', r = out ++ r' /\ PP l st s1 r' /\ (s1.fe = 0 -> (∀ x ∈ r', dV s1.tree x (· = 24)) /\ r.length <= 8)
 | .rR out, r => ∃ r', r = out ++ r' /\ PP l st s1 r' /\ (s1.fe = 0 -> (∀ x ∈ r', dV s1.tree x (· = 25)) /\ r.length <= 200)
def PC.pre (st : RS) : PC -> Prop
 | .rA out => out.length <= 8
 | .rR out => out.length <= 200
 | _ => True
theorem M4 {tr : List Nd} {x y n p : Int} {zs : List Int} {s : bK} (h : nD (kindOf tr x)) (hy : kindOf tr y = 23) (hz : ∀ z ∈ zs, kindOf tr z = 23) (hl : zs.length <= 1) : gJ tr (nd 15 (x :: y :: zs) n s p) := by
 have h1 : kW tr (x :: y :: zs) 1 := ⟨by simp, by simp [h]⟩
 have h2 : BS tr (y :: zs) 23 2 := ⟨by simpa [hy] using hz, by simp; omega⟩
 simp [gJ, nd, h1, h2]
theorem LC {tr : List Nd} {x y n p : Int} {s : bK} (h : nD (kindOf tr x)) (hy : kindOf tr y = 23) : gJ tr (nd 16 [x, y] n s p) := by
 have h1 : kW tr [x, y] 1 := ⟨by simp, by simp [h]⟩
 have h2 : BS tr [y] 23 1 := ⟨by simp [hy], by simp⟩
 simp [gJ, nd, h1, h2]
theorem Q8 {tr : List Nd} {w x y n p : Int} {s : bK} (h0 : nD (kindOf tr w)) (h : nD (kindOf tr x)) (hy : kindOf tr y = 23) : gJ tr (nd 17 [w, x, y] n s p) := by
 have h1 : kW tr [w, x, y] 2 := ⟨by simp, by simp [h0, h]⟩
 have h2 : BS tr [y] 23 1 := ⟨by simp [hy], by simp⟩
 simp [gJ, nd, h1, h2]
theorem LD {tr : List Nd} {r : List Int} {n p : Int} {s : bK} (h : ∀ x ∈ r, j9 (kindOf tr x)) : gJ tr (nd 23 r n s p) := by
 simp [gJ, nd]; exact h
theorem Q7 {tr : List Nd} {r : List Int} {y n p : Int} {s : bK} (h : ∀ x ∈ r, kindOf tr x = 24) (hl : r.length <= 8) (hy : kindOf tr y = 23) : gJ tr (nd 25 (r ++ [y]) n s p) := by
 have h1 : BS tr r 24 8 := ⟨h, hl⟩
 simp [gJ, nd, hy, h1]
theorem O5 {tr : List Nd} {r : List Int} {n p : Int} {s : bK} (h : ∀ x ∈ r, kindOf tr x = 25) (hl : r.length <= 200) : gJ tr (nd 26 r n s p) := by
 have h1 : BS tr r 25 200 := ⟨h, hl⟩
 simp [gJ, nd, h1]
theorem Wb {l : List Tok} (ht : bS l) (hg : ∀ t ∈ l, t.kind = 1 -> t.text ≠ [] /\ rE t.text) : ∀ (k : Nat) (c : PC) (st s1 : RS) (r : List Int), lR l k c st = some (s1, r) -> st.pos < l.length -> TI l st -> c.pre st -> s1.pos < l.length /\ c.post l st s1 r := by
 intro k
 have hl := ht.pos
 induction k with
 | zero => intro c st s1 r h; cases h
 | succ k ih =>
  intro c st s1 r h hp hT hm
  have u0 := lI (st := st) hl
  have dx : ∃ t ∈ l, ((st.now l).pos : Int) = (t.pos : Int) := ⟨_, u0, rfl⟩
  cases c with
  | stmt =>
   have done : ∀ {x : RS × Int}, Gr l st.next x.1 -> PP l st.next x.1 [x.2] -> (x.1.fe = 0 -> dV x.1.tree x.2 j9) -> some (BI x) = some (s1, r) -> s1.pos < l.length /\ PC.post l st s1 .stmt r := by
    intro x g pp kx h
    obtain ⟨rfl, rfl⟩ := eO _ _ _ _ ▸ pH h
    exact ⟨g.pl, pp.A6 pp.inv (fun q => ⟨q, rfl⟩) (fun q => ⟨q, rfl⟩), rfl, fun q y hy => by rw [DL.1 hy]; exact kx q⟩
   have fin : ∀ {s0 : RS} {ks : List Int} (d : Nd), s0.pos < l.length -> PP l st s0 ks -> d.pos = ((st.now l).pos : Int) \/ (∃ t ∈ l, d.pos = (t.pos : Int)) -> (s0.fe = 0 -> Jf d /\ gJ s0.tree d) -> (∀ a, d.kids.count a = ks.count a) -> j9 d.kind -> uv s0 d = some (s1, r) -> s1.pos < l.length /\ PC.post l st s1 .stmt r := by
    intro s0 ks d g pp hpd ho hc Uz h
    obtain ⟨rfl, rfl⟩ := eO _ _ _ _ ▸ pH h
    obtain ⟨q1, q2⟩ := pp.put (d := d) (hpd.elim (fun q => q ▸ dx) id) ho hc
    exact ⟨by rw [ol]; exact g, q1, rfl, fun q y hy => by rw [DL.1 hy]; exact (q2 q).2.SH Uz⟩
   have p0 : PP l st st.next [] := (PP.refl hT).to hT.next fun q => ⟨q, rfl⟩
   simp only [lR] at h
   split at h
   ·rename_i q; have hn := is_lt ht hp q
    obtain ⟨a, b⟩ := Vk ht hg (st := st.next) hn hT.next
    exact done (MZ ht hn).1 a b h
   ·split at h
    ·rename_i q; have hn := is_lt ht hp q
     obtain ⟨e1, e2⟩ := Bu ht hg (st := st.next) hn hT.next
     obtain ⟨_, _, _, _, _, ge, _⟩ := kX (st := st.next) ht hn
     simp only [Ur] at h;obtain ⟨⟨s2, r2⟩, h1, h2⟩ := bind_some h
     obtain ⟨l2, p2, n2, k2⟩ := ih _ _ _ _ h1 ge.pl e1.inv trivial
     obtain ⟨y, rfl⟩ := iY n2
     have pp := (p0.trans e1).trans p2
     simp only at h2
     split at h2
     ·rename_i q2
      obtain ⟨⟨s3, r3⟩, h3, h4⟩ := bind_some h2
      have hn2 := is_lt ht l2 q2
      obtain ⟨l3, p3, n3, k3⟩ := ih _ _ _ _ h3 hn2 p2.inv.next trivial
      obtain ⟨z, rfl⟩ := iY n3
      have p2' : PP l st s2.next ([] ++ [(jy l st.next).2] ++ [y]) := pp.to p2.inv.next fun q => ⟨q, rfl⟩
      refine fin (nd 15 ((jy l st.next).2 :: [y] ++ [z]) 0 [] (st.now l).pos) l3 (p2'.trans p3) (.inl rfl) (fun q => ⟨kO (l := l) ⟨by decide, by decide⟩ (by decide) (fun q => absurd rfl q) rfl, ?_⟩) (fun a => rfl) (by simp [j9, nd]) h4
      have f2 := (p3.grow q).1
      have f2' : s2.fe = 0 := f2
      have f1 := (p2.grow f2').1
      have kx := ((e2 f1).pp p2 f2')
      have kx' : dV s2.next.tree (jy l st.next).2 nD := kx
      have ky : dV s2.next.tree y (· = 23) := k2 f2' y (by simp)
      exact M4 (kx'.pp p3 q).2.2 (ky.pp p3 q).2.2 (fun w hw => by rw [DL.1 hw]; exact (k3 q z (by simp)).2.2) (by simp)
     ·refine fin (nd 15 ((jy l st.next).2 :: [y]) 0 [] (st.now l).pos) l2 pp (.inl rfl) (fun q => ⟨kO (l := l) ⟨by decide, by decide⟩ (by decide) (fun q => absurd rfl q) rfl, ?_⟩) (fun a => rfl) (by simp [j9, nd]) h2
      have f1 := (p2.grow q).1
      exact M4 (zs := []) ((e2 f1).pp p2 q).2.2 (k2 q y (by simp)).2.2 (by simp) (by simp)
    ·split at h
     ·rename_i q; have hn := is_lt ht hp q
      obtain ⟨e1, e2⟩ := Bu ht hg (st := st.next) hn hT.next
      obtain ⟨_, _, _, _, _, ge, _⟩ := kX (st := st.next) ht hn
      simp only [uD] at h;obtain ⟨⟨s2, r2⟩, h1, h2⟩ := bind_some h
      obtain ⟨l2, p2, n2, k2⟩ := ih _ _ _ _ h1 ge.pl e1.inv trivial
      obtain ⟨y, rfl⟩ := iY n2
      refine fin (nd 16 ((jy l st.next).2 :: [y]) 0 [] (st.now l).pos) l2 ((p0.trans e1).trans p2) (.inl rfl) (fun q => ⟨kO (l := l) ⟨by decide, by decide⟩ (by decide) (fun q => absurd rfl q) rfl, ?_⟩) (fun a => rfl) (by simp [j9, nd]) h2
      have f1 := (p2.grow q).1
      exact LC ((e2 f1).pp p2 q).2.2 (k2 q y (by simp)).2.2
     ·split at h
      ·rename_i q; have hn := is_lt ht hp q
       have g1 : Gr l st.next (st.next.name l) := Gr.name ht hn
       have g2 := g1.trans (Gr.want ht g1.pl (s := [61]))
       have p2 := ((p0.name hl).want hl (s := [61]))
       obtain ⟨e1, e2⟩ := Bu ht hg g2.pl p2.inv
       obtain ⟨_, _, _, _, _, ge, _⟩ := kX ht g2.pl
       have g3 := g2.trans ge
       have p3 := (p2.trans e1).want hl (s := [44])
       have g4 := g3.trans (Gr.want ht g3.pl (s := [44]))
       obtain ⟨e3, e4⟩ := Bu ht hg g4.pl p3.inv
       obtain ⟨_, _, _, _, _, gf, _⟩ := kX ht g4.pl
       simp only [JT] at h;obtain ⟨⟨s2, r2⟩, h1, h2⟩ := bind_some h
       obtain ⟨l2, p4, n2, k2⟩ := ih _ _ _ _ h1 gf.pl e3.inv trivial
       obtain ⟨y, rfl⟩ := iY n2
       refine fin (nd 17 ((jy l ((st.next.name l).want l [61])).2 :: (jy l ((jy l ((st.next.name l).want l [61])).1.want l [44])).2 :: [y]) 0 (st.next.cr l) (st.next.now l).pos) l2 ((p3.trans e3).trans p4) (.inr ⟨_, lI hl, rfl⟩) (fun q => ?_) (fun a => rfl) (by simp [j9, nd]) h2
       have f3 := (p4.grow q).1
       have f2 := (e3.grow f3).1
       obtain ⟨f1, t1⟩ := jA f2
       obtain ⟨f0, t0⟩ := jA (e1.grow f1).1
       have hn := mz ht hg f0
       have kw : dV ((jy l ((st.next.name l).want l [61])).1.want l [44]).tree (jy l ((st.next.name l).want l [61])).2 nD := by rw [t1]; exact e2 f1
       exact ⟨kO (l := l) ⟨by decide, by decide⟩ ⟨fun _ => hn.1, fun _ => by decide⟩ (fun _ => hn.2) rfl, Q8 ((kw.pp e3 f3).pp p4 q).2.2 ((e4 f3).pp p4 q).2.2 (k2 q y (by simp)).2.2⟩
      ·split at h
       ·rename_i q; have hn := is_lt ht hp q
        obtain ⟨a, b⟩ := N5 ht hg dx (.inl rfl) (hT.next)
        exact done (oD ht (.refl hn) _).1 a b h
       ·split at h
        ·rename_i q; have hn := is_lt ht hp q
         obtain ⟨a, b⟩ := N5 ht hg dx (.inr rfl) (hT.next)
         exact done (oD ht (.refl hn) _).1 a b h
        ·split at h
         ·rename_i q; have hn := is_lt ht hp q
          obtain ⟨a, b⟩ := QA ht hg dx (.inl rfl) (st := st.next) hn hT.next
          exact done (Cz ht hn _ _).1 a b h
         ·split at h
          ·rename_i q; have hn := is_lt ht hp q
           obtain ⟨a, b⟩ := QA ht hg dx (.inr rfl) (st := st.next) hn hT.next
           exact done (Cz ht hn _ _).1 a b h
          ·obtain ⟨a, b⟩ := QO ht hg hp hT
           obtain ⟨rfl, rfl⟩ := eO _ _ _ _ ▸ pH h
           exact ⟨(Gs ht hp).1.pl, a, rfl, fun q y hy => by rw [DL.1 hy]; exact b q⟩
  | block =>
   simp only [lR] at h
   split at h
   ·rename_i q
    have hn := is_lt ht hp q
    have go := Gr.open hn (p := ((st.now l).pos : Int))
    split at h
    ·obtain ⟨⟨s2, r2⟩, h1, h2⟩ := bind_some h
     obtain ⟨l2, r', uZ, p2, k2⟩ := ih _ _ _ _ h1 go.pl (hT.next.open dx) trivial
     rw [List.nil_append] at uZ
     subst uZ
     have p1 : PP l st s2.close r2 := p2.A6 p2.inv.close (fun q => by obtain ⟨a, b⟩ := Ct q; exact ⟨a, b.symm⟩) fun q => ⟨q, rfl⟩
     obtain ⟨rfl, rfl⟩ := eO _ _ _ _ ▸ pH h2
     obtain ⟨q1, q2⟩ := p1.put (d := nd 23 r2 0 [] (st.now l).pos) dx (fun q => ⟨kO (l := l) ⟨by decide, by decide⟩ (by decide) (fun q => absurd rfl q) rfl, LD fun x hx => (k2 q x hx).2.2⟩) (fun a => rfl)
     exact ⟨by rw [ol]; exact l2, q1, rfl, fun q y hy => by rw [DL.1 hy]; exact (q2 q).2⟩
    ·rename_i hf
     obtain ⟨rfl, rfl⟩ := eO _ _ _ _ ▸ pH h
     exact ⟨go.pl, .bad (hT.next.open dx) hf, rfl, fun q => absurd q hf⟩
   ·obtain ⟨rfl, rfl⟩ := eO _ _ _ _ ▸ pH h
    exact ⟨(Gr.fail hp (by decide)).pl, .bad (hT.fail (by decide) dx) (ej (by decide)), rfl, fun q => absurd q (ej (by decide))⟩
  | kr out =>
   simp only [lR] at h
   split at h
   ·rename_i q
    obtain ⟨rfl, rfl⟩ := eO _ _ _ _ ▸ pH h
    exact ⟨is_lt ht hp q, [], by simp, (PP.refl hT).to hT.next fun q => ⟨q, rfl⟩, fun _ x hx => by cases hx⟩
   ·obtain ⟨⟨s2, r2⟩, h1, h2⟩ := bind_some h
    obtain ⟨l2, p2, n2, k2⟩ := ih _ _ _ _ h1 hp hT trivial
    simp only at h2
    split at h2
    ·obtain ⟨l3, r', rfl, p3, k3⟩ := ih _ _ _ _ h2 l2 p2.inv trivial
     refine ⟨l3, r2 ++ r', by rw [List.append_assoc], p2.trans p3, fun q x hx => ?_⟩
     rcases yb.1 hx with hx | hx
     ·exact (k2 (p3.grow q).1 x hx).pp p3 q
     ·exact k3 q x hx
    ·obtain ⟨rfl, rfl⟩ := eO _ _ _ _ ▸ pH h2
     exact ⟨l2, r2, rfl, p2, k2⟩
  | rA out =>
   have hm : out.length <= 8 := hm
   simp only [lR] at h
   split at h
   ·have g1 := Gr.name ht hp
    have p1 := (PP.refl hT).name hl
    have g0 : Gr l st (if out.length = 8 then (st.name l).fail 3 (st.now l).pos else st.name l) := by
     split
     ·exact g1.trans (.fail g1.pl (by decide))
     ·exact g1
    have p0 : PP l st (if out.length = 8 then (st.name l).fail 3 (st.now l).pos else st.name l) [] := by
     split
     ·exact .bad (p1.inv.fail (by decide) dx) (ej (by decide))
     ·exact p1
    have f0 : (if out.length = 8 then (st.name l).fail 3 (st.now l).pos else st.name l).fe = 0 -> out.length < 8 /\ (st.name l).fe = 0 := by
     split
     ·exact fun q => absurd q (ej (by decide))
     ·exact fun q => ⟨by omega, q⟩
    generalize (if out.length = 8 then (st.name l).fail 3 (st.now l).pos else st.name l) = s0 at *
    have pk := p0.kd hl
    obtain ⟨gk, _⟩ := pj ht g0.pl
    obtain ⟨q1, q2⟩ := pk.put (d := nd 24 [] (jm l s0).2 (st.cr l) (st.now l).pos) dx (fun q => by
     obtain ⟨a, _, b, c⟩ := Gx q
     have hn := mz ht hg (f0 a).2
     refine ⟨kO (l := l) ⟨by decide, by decide⟩ ⟨fun _ => hn.1, fun _ => by decide⟩ (fun _ => hn.2) ?_, Um (.inr (.inr rfl))⟩
     show 1 <= (jm l s0).2 /\ (jm l s0).2 <= 3
     exact ⟨b, c⟩) (fun a => rfl)
    have f1 : ((jm l s0).1.put (nd 24 [] (jm l s0).2 (st.cr l) (st.now l).pos)).fe = 0 -> out.length < 8 := fun q => (f0 (Gx (q2 q).1).1).1
    have l1 : ((jm l s0).1.put (nd 24 [] (jm l s0).2 (st.cr l) (st.now l).pos)).pos < l.length := by rw [ol]; exact gk.pl
    have kk := fun q => (q2 q).2
    clear q2;generalize (jm l s0).1.fV (nd 24 [] (jm l s0).2 (st.cr l) (st.now l).pos) = y at *
    have kk' : ((jm l s0).1.put (nd 24 [] (jm l s0).2 (st.cr l) (st.now l).pos)).fe = 0 -> dV ((jm l s0).1.put (nd 24 [] (jm l s0).2 (st.cr l) (st.now l).pos)).tree y (· = 24) := kk
    clear kk;generalize (jm l s0).1.put (nd 24 [] (jm l s0).2 (st.cr l) (st.now l).pos) = s2 at *
    split at h
    ·rename_i q
     have hn := is_lt ht l1 q
     obtain ⟨l3, r', rfl, p3, k3⟩ := ih _ _ _ _ h hn q1.inv.next (by show (out ++ [y]).length <= 8; rw [jz, List.length_singleton]; have := f1 q.1; omega)
     have q1' : PP l st s2.next [y] := q1.to q1.inv.next fun q => ⟨q, rfl⟩
     refine ⟨l3, [y] ++ r', by rw [List.append_assoc], q1'.trans p3, fun w => ⟨fun x hx => ?_, (k3 w).2⟩⟩
     rcases yb.1 hx with hx | hx
     ·rw [DL.1 hx]
      have : dV s2.next.tree y (· = 24) := kk' q.1
      exact this.pp p3 w
     ·exact (k3 w).1 x hx
    ·obtain ⟨rfl, rfl⟩ := eO _ _ _ _ ▸ pH h
     exact ⟨l1, [y], rfl, q1, fun w => ⟨fun x hx => by rw [DL.1 hx]; exact kk' w, by rw [jz, List.length_singleton]; have := f1 w; omega⟩⟩
   ·rename_i hf
    obtain ⟨rfl, rfl⟩ := eO _ _ _ _ ▸ pH h
    exact ⟨hp, [], by simp, .bad hT hf, fun q => absurd q hf⟩
  | func =>
   simp only [lR] at h;have g0 := Gr.want ht hp (s := Aw)
   have p0 := (PP.refl hT).want hl (s := Aw)
   generalize PR : st.want l Aw = s0 at *
   have g1 : Gr l s0 (s0.name l) := Gr.name ht g0.pl
   have g2 : Gr l s0 ((s0.name l).want l [40]) := g1.trans (Gr.want ht g1.pl)
   have p1 := (p0.name hl).want hl (s := [40])
   have f1 : ((s0.name l).want l [40]).fe = 0 -> (s0.name l).fe = 0 := fun q => (jA q).1
   generalize rN : (s0.name l).want l [40] = K4 at *
   obtain ⟨⟨s2, r2⟩, h1, h2⟩ := bind_some h
   have VC : s2.pos < l.length /\ PP l K4 s2 r2 /\ (s2.fe = 0 -> (∀ x ∈ r2, dV s2.tree x (· = 24)) /\ r2.length <= 8) := by
    split at h1
    ·obtain ⟨rfl, rfl⟩ := eO _ _ _ _ ▸ pH h1
     exact ⟨g2.pl, .refl p1.inv, fun _ => ⟨fun x hx => (by cases hx), ml _⟩⟩
    ·obtain ⟨l3, r', uZ, p3, k3⟩ := ih _ _ _ _ h1 g2.pl p1.inv (ml _)
     rw [List.nil_append] at uZ
     subst uZ
     exact ⟨l3, p3, k3⟩
   obtain ⟨l2, p2, k2⟩ := VC
   simp only at h2
   have gw := Gr.want ht l2 (s := [41])
   have p3 := ((p1.trans p2).want hl (s := [41])).kd hl
   obtain ⟨gk, _⟩ := pj ht gw.pl
   obtain ⟨⟨s5, r5⟩, h3, h4⟩ := bind_some h2
   obtain ⟨l5, p5, n5, k5⟩ := ih _ _ _ _ h3 gk.pl p3.inv trivial
   obtain ⟨y, rfl⟩ := iY n5
   simp only [uv] at h4;obtain ⟨rfl, rfl⟩ := eO _ _ _ _ ▸ pH h4
   obtain ⟨q1, q2⟩ := (p3.trans p5).put (d := nd 25 (r2 ++ [y]) (jm l (s2.want l [41])).2 (s0.cr l) (s0.now l).pos) ⟨_, lI hl, rfl⟩ (fun q => by
    obtain ⟨a, t1, b, c⟩ := Gx (p5.grow q).1
    obtain ⟨f2, t2⟩ := jA a
    have hn := mz ht hg (f1 (p2.grow f2).1)
    refine ⟨kO (l := l) ⟨by decide, by decide⟩ ⟨fun _ => hn.1, fun _ => by decide⟩ (fun _ => hn.2) ?_, ?_⟩
    ·show 1 <= (jm l (s2.want l [41])).2 /\ (jm l (s2.want l [41])).2 <= 3
     exact ⟨b, c⟩
    ·refine Q7 (fun x hx => ?_) (k2 f2).2 (k5 q y (by simp)).2.2
     have : dV (jm l (s2.want l [41])).1.tree x (· = 24) := by rw [t1, t2]; exact (k2 f2).1 x hx
     exact (this.pp p5 q).2.2) (fun a => by simp [nd])
   refine ⟨by rw [ol]; exact l5, q1, rfl, fun q => ⟨fun z hz => by rw [DL.1 hz]; exact (q2 q).2, ?_⟩⟩
   rw [PR];obtain ⟨a, _⟩ := Gx (p5.grow (q2 q).1).1
   exact (CD (f1 (p2.grow (jA a).1).1)).1
  | rR out =>
   have hm : out.length <= 200 := hm
   simp only [lR] at h
   split at h
   ·rename_i qf
    have p0 : PP l st (if out.length = 200 /\ st.is l Aw then st.fail 3 (st.now l).pos else st) [] := by
     split
     ·exact .bad (hT.fail (by decide) dx) (ej (by decide))
     ·exact .refl hT
    have l0 : (if out.length = 200 /\ st.is l Aw then st.fail 3 (st.now l).pos else st).pos < l.length := by
     split
     ·rw [c6.1]; exact hp
     ·exact hp
    have n0 : out.length = 200 -> ((if out.length = 200 /\ st.is l Aw then st.fail 3 (st.now l).pos else st).want l Aw).fe ≠ 0 := by
     intro q
     by_cases w : st.is l Aw
     ·rw [if_pos ⟨q, w⟩]; exact fun a => absurd (jA a).1 (ej (by decide))
     ·rw [if_neg fun z => w z.2]
      unfold RS.want; rw [if_neg w]; exact ej (by decide)
    generalize (if out.length = 200 /\ st.is l Aw then st.fail 3 (st.now l).pos else st) = s0 at *
    obtain ⟨⟨s2, r2⟩, h1, h2⟩ := bind_some h
    obtain ⟨l2, p2, n2, k2⟩ := ih _ _ _ _ h1 l0 p0.inv trivial
    have bn : s2.fe = 0 -> out.length < 200 := by
     intro q
     refine Gb fun w => n0 (by omega) ?_
     exact (k2 q).2
    obtain ⟨y, rfl⟩ := iY n2
    simp only at h2
    split at h2
    ·rename_i q
     obtain ⟨l3, r', rfl, p3, k3⟩ := ih _ _ _ _ h2 l2 p2.inv (by show (out ++ [y]).length <= 200; rw [jz, List.length_singleton]; have := bn q; omega)
     refine ⟨l3, [y] ++ r', by rw [List.append_assoc], p0.trans (p2.trans p3), fun w => ⟨fun x hx => ?_, (k3 w).2⟩⟩
     rcases yb.1 hx with hx | hx
     ·exact ((k2 q).1 x hx).pp p3 w
     ·exact (k3 w).1 x hx
    ·rename_i q
     obtain ⟨rfl, rfl⟩ := eO _ _ _ _ ▸ pH h2
     exact ⟨l2, [y], rfl, p0.trans p2, fun w => absurd w q⟩
   ·obtain ⟨rfl, rfl⟩ := eO _ _ _ _ ▸ pH h
    exact ⟨hp, [], by simp, .refl hT, fun _ => ⟨fun x hx => (by cases hx), hm⟩⟩
end
end Go.Proofs.YtdiccmapankckaaDoor.Ev
