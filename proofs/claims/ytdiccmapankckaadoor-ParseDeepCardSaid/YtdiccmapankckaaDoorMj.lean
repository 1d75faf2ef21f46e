/- WPl7, WPl8, WPa11, PLex2, PDp, WDp0, WDpC96, WDpC97, WDpC98, WDpC99, PExpr3, PExpr4, PExpr5, PPt1, PPt2, PPt3, WRw, PPt4, EvLive, EvCard, WDp, WDpL. -/
import Derived.LaidMore
import Derived.Lib.LaidTab
import Derived.Test.YtdiccmapankckaaDoorMi
set_option linter.unusedSimpArgs false
set_option linter.unusedVariables false
set_option linter.unusedSectionVars false
set_option linter.defProp false
set_option maxRecDepth 20000
set_option maxHeartbeats 8000000
namespace Go.Proofs.YtdiccmapankckaaDoor.Ev
open Go
section
theorem Ot {m : Mem} {b p : Nat} {s : bZ} {ov : EV} {l : List Tok} (h : Sn m b s p ov l) (hs : s.length < 1000000) {c : UInt8} {r : bZ} (hc : s.drop p = c :: r) (oN : eI (cI c) = 0) :
  ∃ m', run U ba [.ptr b 0] m = some (.ret (.int .i64 6) m') /\ Sn m' b s p ov l /\ Kn m m' b ov ov := by
 have hlen : (s.drop p).length = s.length - p := x9 ..
 have dO : 0 < (s.drop p).length := by rw [hc]; simp
 have hg := h.g
 have hb := h.lt
 have AP : au (some (.int .i64 (p : Int))) 0 s.length = some p := eJ h.le
 have It : au none s.length s.length = some s.length := rfl
 have hi : idx (s.drop p).length (.int .i64 0) = some 0 := bJ (i := 0) dO
 have h0 : (s.drop p)[0]? = some c := by rw [hc]; rfl
 have xj : bA B K iW [.int .u8 (c.toNat : Int)] = some (.int .i64 0) := by rw [show (c.toNat : Int) = cI c from rfl, pu, oN]
 have HA := h.le
 rw [bX (by simp [bj])]
 simp +contextual -implicitDefEqProofs (maxSteps := 1000000) (maxDischargeDepth := 8) only [bj, hg, hb, AP, It, List.take_length, Option.map_none, aq, aa, implies_true, simprocAttr]
 generalize ti : Mem.mk (nb m.next 11) _ = D1
 have tK : D1.next = nb m.next 11 := by rw [<- ti]
 have EM : ∀ c, c < m.next -> D1.get c = m.get c := fun c hc => by
  rw [<- ti];exact (aL (m := Mem.mk (m.next + 9) (bump m 11).gB) (by show c < m.next + 9; omega)).trans rfl
 have HW : D1.get (nb (m.next + 9) 0) = .cells [.str []] 1 dI false := by
  rw [<- ti];exact (aK (m := Mem.mk (m.next + 9) (bump m 11).gB) rfl (by simp)).trans rfl
 clear ti;have mG : nb (m.next + 9) 0 < D1.next := by rw [tK]; unfold nb; omega
 have HD : m.next <= nb (m.next + 9) 0 := by unfold nb; omega
 generalize nb (m.next + 9) 0 = c0 at *
 obtain ⟨M1, pD⟩ : ∃ M1, D1.set c0 (.cells [.str (s.drop p)] 1 dI false) = M1 := ⟨_, rfl⟩
 have Hp : M1.next = nb m.next 11 := by rw [<- pD, cf, tK]
 have Gh : ∀ c, c < m.next -> M1.get c = m.get c := fun c hc => by rw [<- pD, az (by omega), EM c hc]
 have MD : M1.get c0 = .cells [.str (s.drop p)] 1 dI false := by rw [<- pD, bK]
 have Iq : M1.get b = .cells [.str s, .int .i64 (p : Int), ov] 3 eS false := by rw [Gh b hb, hg]
 have pI : b < M1.next := by rw [Hp]; unfold nb; omega
 have tf : c0 < M1.next := by rw [<- pD, cf]; exact mG
 have hS : Sn M1 b s p ov l := ⟨Iq, pI, h.o.gF (by rw [Hp]; exact bE) fun c hc _ _ => Gh c hc, h.n, h.le⟩
 have hK : Kn m M1 b ov ov := ⟨by rw [Hp]; exact bE, fun c hc _ _ => Gh c hc, fun c _ _ ho => ho⟩
 simp +contextual -implicitDefEqProofs (maxSteps := 1000000) (maxDischargeDepth := 8) only [HW, pD, mG, MD, Iq, pI, tf, hi, h0, xj, Option.map_none, aq, aa, implies_true, simprocAttr]
 exact ⟨_, rfl, hS, hK⟩
theorem IZ {m : Mem} {b p : Nat} {s : bZ} {ov : EV} {l : List Tok} (h : Sn m b s p ov l) (hs : s.length < 1000000) {c : UInt8} {r : bZ} (hc : s.drop p = c :: r) (oN : eI (cI c) = 2) :
  ∃ m', run U ba [.ptr b 0] m = some (.ret (.int .i64 0) m') /\ Sn m' b s (p + ej (s.drop p)) ov l /\ Kn m m' b ov ov := by
 have hlen : (s.drop p).length = s.length - p := x9 ..
 have dO : 0 < (s.drop p).length := by rw [hc]; simp
 have hg := h.g
 have hb := h.lt
 have AP : au (some (.int .i64 (p : Int))) 0 s.length = some p := eJ h.le
 have It : au none s.length s.length = some s.length := rfl
 have hi : idx (s.drop p).length (.int .i64 0) = some 0 := bJ (i := 0) dO
 have h0 : (s.drop p)[0]? = some c := by rw [hc]; rfl
 have xj : bA B K iW [.int .u8 (c.toNat : Int)] = some (.int .i64 2) := by rw [show (c.toNat : Int) = cI c from rfl, pu, oN]
 have HA := h.le
 rw [bX (by simp [bj])]
 simp +contextual -implicitDefEqProofs (maxSteps := 1000000) (maxDischargeDepth := 8) only [bj, hg, hb, AP, It, List.take_length, Option.map_none, aq, aa, implies_true, simprocAttr]
 generalize ti : Mem.mk (nb m.next 11) _ = D1
 have tK : D1.next = nb m.next 11 := by rw [<- ti]
 have EM : ∀ c, c < m.next -> D1.get c = m.get c := fun c hc => by
  rw [<- ti];exact (aL (m := Mem.mk (m.next + 9) (bump m 11).gB) (by show c < m.next + 9; omega)).trans rfl
 have HW : D1.get (nb (m.next + 9) 0) = .cells [.str []] 1 dI false := by
  rw [<- ti];exact (aK (m := Mem.mk (m.next + 9) (bump m 11).gB) rfl (by simp)).trans rfl
 clear ti;have mG : nb (m.next + 9) 0 < D1.next := by rw [tK]; unfold nb; omega
 have HD : m.next <= nb (m.next + 9) 0 := by unfold nb; omega
 generalize nb (m.next + 9) 0 = c0 at *
 obtain ⟨M1, pD⟩ : ∃ M1, D1.set c0 (.cells [.str (s.drop p)] 1 dI false) = M1 := ⟨_, rfl⟩
 have Hp : M1.next = nb m.next 11 := by rw [<- pD, cf, tK]
 have Gh : ∀ c, c < m.next -> M1.get c = m.get c := fun c hc => by rw [<- pD, az (by omega), EM c hc]
 have MD : M1.get c0 = .cells [.str (s.drop p)] 1 dI false := by rw [<- pD, bK]
 have Iq : M1.get b = .cells [.str s, .int .i64 (p : Int), ov] 3 eS false := by rw [Gh b hb, hg]
 have pI : b < M1.next := by rw [Hp]; unfold nb; omega
 have tf : c0 < M1.next := by rw [<- pD, cf]; exact mG
 have hS : Sn M1 b s p ov l := ⟨Iq, pI, h.o.gF (by rw [Hp]; exact bE) fun c hc _ _ => Gh c hc, h.n, h.le⟩
 have hK : Kn m M1 b ov ov := ⟨by rw [Hp]; exact bE, fun c hc _ _ => Gh c hc, fun c _ _ ho => ho⟩
 have hle := mS (fun n => n ≠ 10) (s.drop p)
 obtain ⟨a, b', abo⟩ := RV (s := s.drop p) (by omega)
 have Lx : ((s.drop p).take (ej (s.drop p))).length = ej (s.drop p) := by rw [List.length_take]; unfold ej; omega
 have hw : IntKind.i64.wrap ((p : Int) + (ej (s.drop p) : Int)) = ((p + ej (s.drop p) : Nat) : Int) := by rw [wrap_i64 (by unfold ej; omega) (by unfold ej; omega)]; omega
 unfold ej at *
 generalize lead (fun n => n ≠ 10) (s.drop p) = k at *
 simp +contextual -implicitDefEqProofs (maxSteps := 1000000) (maxDischargeDepth := 8) only [HW, pD, mG, MD, Iq, pI, tf, hi, h0, xj, Option.map_none, abo, Lx, hw, aq, aa, implies_true, simprocAttr]
 refine ⟨_, rfl, ⟨by rw [bK], by rw [cf]; exact pI, ?_, by have := h.n; omega, by omega⟩, ⟨by rw [cf]; exact hK.n, fun c hc VM ho => ?_, fun c _ _ ho => ho⟩⟩
 ·exact hS.o.gF (by rw [cf]; exact fh _) fun c hc nv _ => az (by omega)
 ·rw [az VM, Gh c hc]
theorem I0 {m : Mem} {b p : Nat} {s : bZ} {ov : EV} {l : List Tok} (h : Sn m b s p ov l) (hs : s.length < 1000000) {c : UInt8} {r : bZ} (hc : s.drop p = c :: r) (oN : eI (cI c) = 3) :
  ∃ m', (∃ e q, kg (s.drop p) p = .bad e q /\ run U ba [.ptr b 0] m = some (.ret (.int .i64 (e : Int)) m') /\ Sn m' b s p ov l /\ Kn m m' b ov ov) \/
   (∃ t, kg (s.drop p) p = .ok t /\ run U ba [.ptr b 0] m = some (.ret (.int .i64 0) m') /\ Laid m m' b s ov l t (p + t.text.length)) := by
 have hlen : (s.drop p).length = s.length - p := x9 ..
 have dO : 0 < (s.drop p).length := by rw [hc]; simp
 have hg := h.g
 have hb := h.lt
 have AP : au (some (.int .i64 (p : Int))) 0 s.length = some p := eJ h.le
 have It : au none s.length s.length = some s.length := rfl
 have hi : idx (s.drop p).length (.int .i64 0) = some 0 := bJ (i := 0) dO
 have h0 : (s.drop p)[0]? = some c := by rw [hc]; rfl
 have xj : bA B K iW [.int .u8 (c.toNat : Int)] = some (.int .i64 3) := by rw [show (c.toNat : Int) = cI c from rfl, pu, oN]
 have HA := h.le
 rw [bX (by simp [bj])]
 simp +contextual -implicitDefEqProofs (maxSteps := 1000000) (maxDischargeDepth := 8) only [bj, hg, hb, AP, It, List.take_length, Option.map_none, aq, aa, implies_true, simprocAttr]
 generalize ti : Mem.mk (nb m.next 11) _ = D1
 have tK : D1.next = nb m.next 11 := by rw [<- ti]
 have EM : ∀ c, c < m.next -> D1.get c = m.get c := fun c hc => by
  rw [<- ti];exact (aL (m := Mem.mk (m.next + 9) (bump m 11).gB) (by show c < m.next + 9; omega)).trans rfl
 have HW : D1.get (nb (m.next + 9) 0) = .cells [.str []] 1 dI false := by
  rw [<- ti];exact (aK (m := Mem.mk (m.next + 9) (bump m 11).gB) rfl (by simp)).trans rfl
 clear ti;have mG : nb (m.next + 9) 0 < D1.next := by rw [tK]; unfold nb; omega
 have HD : m.next <= nb (m.next + 9) 0 := by unfold nb; omega
 generalize nb (m.next + 9) 0 = c0 at *
 obtain ⟨M1, pD⟩ : ∃ M1, D1.set c0 (.cells [.str (s.drop p)] 1 dI false) = M1 := ⟨_, rfl⟩
 have Hp : M1.next = nb m.next 11 := by rw [<- pD, cf, tK]
 have Gh : ∀ c, c < m.next -> M1.get c = m.get c := fun c hc => by rw [<- pD, az (by omega), EM c hc]
 have MD : M1.get c0 = .cells [.str (s.drop p)] 1 dI false := by rw [<- pD, bK]
 have Iq : M1.get b = .cells [.str s, .int .i64 (p : Int), ov] 3 eS false := by rw [Gh b hb, hg]
 have pI : b < M1.next := by rw [Hp]; unfold nb; omega
 have tf : c0 < M1.next := by rw [<- pD, cf]; exact mG
 have hS : Sn M1 b s p ov l := ⟨Iq, pI, h.o.gF (by rw [Hp]; exact bE) fun c hc _ _ => Gh c hc, h.n, h.le⟩
 have hK : Kn m M1 b ov ov := ⟨by rw [Hp]; exact bE, fun c hc _ _ => Gh c hc, fun c _ _ ho => ho⟩
 have Vx := tQ.1 oN
 have hk := GO (s := r) Vx
 rw [<- hc] at hk;have FB : 0 < eN (s.drop p) := by
  have e0 : eN (c :: r) = 1 + lead (fun n => cO n \/ bu n) r := if_pos Vx
  rw [hc, e0]; omega
 have hwl := DE (s.drop p)
 have hnd : ¬ bu (cI c) := by unfold bu; unfold cO at Vx; omega
 have BG : kg (s.drop p) p = if 0 < eN (s.drop p) /\ (s.drop p).take (eN (s.drop p)) ∈ jx then .ok ⟨3, (s.drop p).take (eN (s.drop p)), 0, p⟩ else if 32 < eN (s.drop p) then .bad 3 p else .ok ⟨1, (s.drop p).take (eN (s.drop p)), 0, p⟩ := by
  have SB : (s.drop p)[0] = c := by have := mZ dO; rw [h0] at this; exact (pE this).symm
  rw [we dO, SB, if_neg hnd, if_pos FB]
 have Lx : ((s.drop p).take (eN (s.drop p))).length = eN (s.drop p) := by rw [List.length_take]; omega
 obtain ⟨m2, hh⟩ := PI hS hs hk FB
 generalize eN (s.drop p) = k at *
 rcases hh with ⟨w1, e2, KW, q1, q2⟩ | ⟨w1, w2, e2, q1, q2⟩ | ⟨w1, w2, e2, KW, q1, q2⟩
 ·refine ⟨m2, .inr ⟨_, by rw [BG, if_pos ⟨FB, w1⟩], ?_, KW, by simp only [Lx]; exact q1, hK.trans q2⟩⟩
  simp +contextual -implicitDefEqProofs (maxSteps := 1000000) (maxDischargeDepth := 8) only [HW, pD, mG, MD, Iq, pI, tf, hi, h0, xj, Option.map_none, e2, aq, aa, implies_true, simprocAttr]
 ·refine ⟨m2, .inl ⟨3, p, by rw [BG, if_neg (fun q => w1 q.2), if_pos w2], ?_, q1, hK.trans q2⟩⟩
  simp +contextual -implicitDefEqProofs (maxSteps := 1000000) (maxDischargeDepth := 8) only [HW, pD, mG, MD, Iq, pI, tf, hi, h0, xj, Option.map_none, e2, aq, aa, implies_true, simprocAttr]
 ·refine ⟨m2, .inr ⟨_, by rw [BG, if_neg (fun q => w1 q.2), if_neg w2], ?_, KW, by simp only [Lx]; exact q1, hK.trans q2⟩⟩
  simp +contextual -implicitDefEqProofs (maxSteps := 1000000) (maxDischargeDepth := 8) only [HW, pD, mG, MD, Iq, pI, tf, hi, h0, xj, Option.map_none, e2, aq, aa, implies_true, simprocAttr]
theorem K7 {m : Mem} {b p : Nat} {s : bZ} {ov : EV} {l : List Tok} (h : Sn m b s p ov l) (hs : s.length < 1000000) {c : UInt8} {r : bZ} (hc : s.drop p = c :: r) (oN : eI (cI c) = 4) :
  ∃ m', (∃ e q, kg (s.drop p) p = .bad e q /\ run U ba [.ptr b 0] m = some (.ret (.int .i64 (e : Int)) m') /\ Sn m' b s p ov l /\ Kn m m' b ov ov) \/
   (∃ t, kg (s.drop p) p = .ok t /\ run U ba [.ptr b 0] m = some (.ret (.int .i64 0) m') /\ Laid m m' b s ov l t (p + t.text.length)) := by
 have hlen : (s.drop p).length = s.length - p := x9 ..
 have dO : 0 < (s.drop p).length := by rw [hc]; simp
 have hg := h.g
 have hb := h.lt
 have AP : au (some (.int .i64 (p : Int))) 0 s.length = some p := eJ h.le
 have It : au none s.length s.length = some s.length := rfl
 have hi : idx (s.drop p).length (.int .i64 0) = some 0 := bJ (i := 0) dO
 have h0 : (s.drop p)[0]? = some c := by rw [hc]; rfl
 have xj : bA B K iW [.int .u8 (c.toNat : Int)] = some (.int .i64 4) := by rw [show (c.toNat : Int) = cI c from rfl, pu, oN]
 have HA := h.le
 rw [bX (by simp [bj])]
 simp +contextual -implicitDefEqProofs (maxSteps := 1000000) (maxDischargeDepth := 8) only [bj, hg, hb, AP, It, List.take_length, Option.map_none, aq, aa, implies_true, simprocAttr]
 generalize ti : Mem.mk (nb m.next 11) _ = D1
 have tK : D1.next = nb m.next 11 := by rw [<- ti]
 have EM : ∀ c, c < m.next -> D1.get c = m.get c := fun c hc => by
  rw [<- ti];exact (aL (m := Mem.mk (m.next + 9) (bump m 11).gB) (by show c < m.next + 9; omega)).trans rfl
 have HW : D1.get (nb (m.next + 9) 0) = .cells [.str []] 1 dI false := by
  rw [<- ti];exact (aK (m := Mem.mk (m.next + 9) (bump m 11).gB) rfl (by simp)).trans rfl
 clear ti;have mG : nb (m.next + 9) 0 < D1.next := by rw [tK]; unfold nb; omega
 have HD : m.next <= nb (m.next + 9) 0 := by unfold nb; omega
 generalize nb (m.next + 9) 0 = c0 at *
 obtain ⟨M1, pD⟩ : ∃ M1, D1.set c0 (.cells [.str (s.drop p)] 1 dI false) = M1 := ⟨_, rfl⟩
 have Hp : M1.next = nb m.next 11 := by rw [<- pD, cf, tK]
 have Gh : ∀ c, c < m.next -> M1.get c = m.get c := fun c hc => by rw [<- pD, az (by omega), EM c hc]
 have MD : M1.get c0 = .cells [.str (s.drop p)] 1 dI false := by rw [<- pD, bK]
 have Iq : M1.get b = .cells [.str s, .int .i64 (p : Int), ov] 3 eS false := by rw [Gh b hb, hg]
 have pI : b < M1.next := by rw [Hp]; unfold nb; omega
 have tf : c0 < M1.next := by rw [<- pD, cf]; exact mG
 have hS : Sn M1 b s p ov l := ⟨Iq, pI, h.o.gF (by rw [Hp]; exact bE) fun c hc _ _ => Gh c hc, h.n, h.le⟩
 have hK : Kn m M1 b ov ov := ⟨by rw [Hp]; exact bE, fun c hc _ _ => Gh c hc, fun c _ _ ho => ho⟩
 have WE := qF.1 oN
 have FB : 0 < lead bu (s.drop p) := by rw [hc, lead, if_pos WE]; omega
 have hwl := mS bu (s.drop p)
 have BG : kg (s.drop p) p = IX ((s.drop p).take (lead bu (s.drop p))) p := by
  have SB : (s.drop p)[0] = c := by have := mZ dO; rw [h0] at this; exact (pE this).symm
  rw [we dO, SB, if_pos WE]
 have Lx : ((s.drop p).take (lead bu (s.drop p))).length = lead bu (s.drop p) := by rw [List.length_take]; omega
 obtain ⟨m2, hh⟩ := K3 hS hs FB
 generalize lead bu (s.drop p) = k at *
 rcases hh with ⟨w1, e2, q1, q2⟩ | ⟨n, w1, e2, KW, q1, q2⟩
 ·refine ⟨m2, .inl ⟨7, p, by rw [BG, IX, w1], ?_, q1, hK.trans q2⟩⟩
  simp +contextual -implicitDefEqProofs (maxSteps := 1000000) (maxDischargeDepth := 8) only [HW, pD, mG, MD, Iq, pI, tf, hi, h0, xj, Option.map_none, e2, aq, aa, implies_true, simprocAttr]
 ·refine ⟨m2, .inr ⟨_, by rw [BG, IX, w1], ?_, KW, by simp only [Lx]; exact q1, hK.trans q2⟩⟩
  simp +contextual -implicitDefEqProofs (maxSteps := 1000000) (maxDischargeDepth := 8) only [HW, pD, mG, MD, Iq, pI, tf, hi, h0, xj, Option.map_none, e2, aq, aa, implies_true, simprocAttr]
theorem Oq {m : Mem} {b p : Nat} {s : bZ} {ov : EV} {l : List Tok} (h : Sn m b s p ov l) (hs : s.length < 1000000) {c : UInt8} {r : bZ} (hc : s.drop p = c :: r) (oN : eI (cI c) = 5) :
  ∃ m', (∃ e q, kg (s.drop p) p = .bad e q /\ run U ba [.ptr b 0] m = some (.ret (.int .i64 (e : Int)) m') /\ Sn m' b s p ov l /\ Kn m m' b ov ov) \/
   (∃ t, kg (s.drop p) p = .ok t /\ run U ba [.ptr b 0] m = some (.ret (.int .i64 0) m') /\ Laid m m' b s ov l t (p + t.text.length)) := by
 have hlen : (s.drop p).length = s.length - p := x9 ..
 have dO : 0 < (s.drop p).length := by rw [hc]; simp
 have hg := h.g
 have hb := h.lt
 have AP : au (some (.int .i64 (p : Int))) 0 s.length = some p := eJ h.le
 have It : au none s.length s.length = some s.length := rfl
 have hi : idx (s.drop p).length (.int .i64 0) = some 0 := bJ (i := 0) dO
 have h0 : (s.drop p)[0]? = some c := by rw [hc]; rfl
 have xj : bA B K iW [.int .u8 (c.toNat : Int)] = some (.int .i64 5) := by rw [show (c.toNat : Int) = cI c from rfl, pu, oN]
 have HA := h.le
 rw [bX (by simp [bj])]
 simp +contextual -implicitDefEqProofs (maxSteps := 1000000) (maxDischargeDepth := 8) only [bj, hg, hb, AP, It, List.take_length, Option.map_none, aq, aa, implies_true, simprocAttr]
 generalize ti : Mem.mk (nb m.next 11) _ = D1
 have tK : D1.next = nb m.next 11 := by rw [<- ti]
 have EM : ∀ c, c < m.next -> D1.get c = m.get c := fun c hc => by
  rw [<- ti];exact (aL (m := Mem.mk (m.next + 9) (bump m 11).gB) (by show c < m.next + 9; omega)).trans rfl
 have HW : D1.get (nb (m.next + 9) 0) = .cells [.str []] 1 dI false := by
  rw [<- ti];exact (aK (m := Mem.mk (m.next + 9) (bump m 11).gB) rfl (by simp)).trans rfl
 clear ti;have mG : nb (m.next + 9) 0 < D1.next := by rw [tK]; unfold nb; omega
 have HD : m.next <= nb (m.next + 9) 0 := by unfold nb; omega
 generalize nb (m.next + 9) 0 = c0 at *
 obtain ⟨M1, pD⟩ : ∃ M1, D1.set c0 (.cells [.str (s.drop p)] 1 dI false) = M1 := ⟨_, rfl⟩
 have Hp : M1.next = nb m.next 11 := by rw [<- pD, cf, tK]
 have Gh : ∀ c, c < m.next -> M1.get c = m.get c := fun c hc => by rw [<- pD, az (by omega), EM c hc]
 have MD : M1.get c0 = .cells [.str (s.drop p)] 1 dI false := by rw [<- pD, bK]
 have Iq : M1.get b = .cells [.str s, .int .i64 (p : Int), ov] 3 eS false := by rw [Gh b hb, hg]
 have pI : b < M1.next := by rw [Hp]; unfold nb; omega
 have tf : c0 < M1.next := by rw [<- pD, cf]; exact mG
 have hS : Sn M1 b s p ov l := ⟨Iq, pI, h.o.gF (by rw [Hp]; exact bE) fun c hc _ _ => Gh c hc, h.n, h.le⟩
 have hK : Kn m M1 b ov ov := ⟨by rw [Hp]; exact bE, fun c hc _ _ => Gh c hc, fun c _ _ ho => ho⟩
 have hnd : ¬ bu (cI c) := fun q => by have := qF.2 q; rw [oN] at this; exact absurd this (by decide)
 have XD : ¬ cO (cI c) := fun q => by have := tQ.2 q; rw [oN] at this; exact absurd this (by decide)
 have hw0 : eN (s.drop p) = 0 := by rw [hc]; unfold eN; exact if_neg XD
 have BG : kg (s.drop p) p = if l7 (s.drop p) = 0 then .bad 6 p else .ok ⟨4, (s.drop p).take (l7 (s.drop p)), 0, p⟩ := by
  have SB : (s.drop p)[0] = c := by have := mZ dO; rw [h0] at this; exact (pE this).symm
  rw [we dO, SB, if_neg hnd, hw0]; simp
 have hl := fun m => MH (l := oV) (m := m)
 have hL : L_lex_signs = oV := rfl
 have hsl := IH dO
 have Lx : ((s.drop p).take (l7 (s.drop p))).length = l7 (s.drop p) := by rw [List.length_take]; omega
 rcases RK (l := oV) (tg := 0) (by decide) MD tf with ⟨i, y, f1, f2, f3, f4⟩ | ⟨f3, f4⟩
 ·have hsy := KI f1 f2 f3
  have Sz := (rc.1 f1).1
  have hy0 : 0 < y.length := by rcases IG f1 with ⟨_, _, q⟩ | ⟨_, a, _, rfl⟩; omega; simp
  rw [hsy] at BG hsl Lx;rw [if_neg (by omega)] at BG;obtain ⟨m2, KW, e2, o2, g2, k2⟩ := uQ hS (k := 4) (n := y.length) (num := 0) (by omega) hs (by omega)
  have O8 : run U fJ [.ptr b 0, .int .i64 4, .int .i64 (y.length : Int), .int .i64 0] M1 = some (.ret (.tuple []) m2) := e2
  have hge : ¬ ((i : Int) < 0) := by omega
  refine ⟨m2, .inr ⟨_, BG, ?_, KW, ⟨by simp only [Lx]; exact g2, ?_, ?_, ?_, ?_⟩, hK.trans k2⟩⟩
  ·simp +contextual -implicitDefEqProofs (maxSteps := 1000000) (maxDischargeDepth := 8) only [HW, pD, mG, MD, Iq, pI, tf, hi, h0, xj, Option.map_none, hL, hl, f4, f1, Sz, hge, O8, AA, rj, bJ, aq, aa, implies_true, simprocAttr]
  ·have := k2.n; omega
  ·rw [ja]; exact o2
  ·rw [ja, List.length_singleton]; have := h.n; simp only [Lx]; omega
  ·simp only [Lx]; omega
 ·have hsy := F4 f3
  rw [if_pos hsy] at BG;refine ⟨M1, .inl ⟨6, p, BG, ?_, hS, hK⟩⟩
  simp +contextual -implicitDefEqProofs (maxSteps := 1000000) (maxDischargeDepth := 8) only [HW, pD, mG, MD, Iq, pI, tf, hi, h0, xj, Option.map_none, hL, hl, f4, aq, aa, implies_true, simprocAttr]
end
section
theorem QC {m : Mem} {b p : Nat} {s : bZ} {ov : EV} {l : List Tok} (h : Sn m b s p ov l) (hs : s.length < 1000000) (hp : p < s.length) :
  ∃ m', (∃ j, 0 < j /\ p + j <= s.length /\ (∀ k, iT (k + 1) (s.drop p) p = iT k (s.drop (p + j)) (p + j)) /\ run U ba [.ptr b 0] m = some (.ret (.int .i64 0) m') /\ Sn m' b s (p + j) ov l /\ Kn m m' b ov ov) \/
   (∃ e : Nat, 0 < e /\ (∀ k, iT (k + 1) (s.drop p) p = .bad e p) /\ run U ba [.ptr b 0] m = some (.ret (.int .i64 (e : Int)) m') /\ Sn m' b s p ov l /\ Kn m m' b ov ov) \/
   (∃ t : Tok, 0 < t.text.length /\ p + t.text.length <= s.length /\ (∀ k, iT (k + 1) (s.drop p) p = (iT k (s.drop (p + t.text.length)) (p + t.text.length)).map (t :: ·)) /\ run U ba [.ptr b 0] m = some (.ret (.int .i64 0) m') /\ Laid m m' b s ov l t (p + t.text.length)) := by
 obtain ⟨c, r, hc⟩ : ∃ c r, s.drop p = c :: r := by
  cases hq : s.drop p with
  | nil => have := congrArg List.length hq; rw [x9, List.length_nil] at this; omega
  | cons c r => exact ⟨c, r, rfl⟩
 have hlen : (s.drop p).length = s.length - p := x9 ..
 have dO : 0 < (s.drop p).length := by omega
 have step : ∀ k, iT (k + 1) (s.drop p) p = if er (cI c) then iT k ((s.drop p).drop (lead er (s.drop p))) (p + lead er (s.drop p))
  else if cI c = 35 then iT k ((s.drop p).drop (ej (s.drop p))) (p + ej (s.drop p))
  else match kg (s.drop p) p with
   | .bad e q => .bad e q
   | .ok t => (iT k ((s.drop p).drop t.text.length) (p + t.text.length)).map (t :: ·) := fun k => by rw [hc]; rfl
 have hle := RZ (n := cI c)
 have tok : ¬ er (cI c) -> ¬ cI c = 35 -> ∀ m', ((∃ e q, kg (s.drop p) p = .bad e q /\ run U ba [.ptr b 0] m = some (.ret (.int .i64 (e : Int)) m') /\ Sn m' b s p ov l /\ Kn m m' b ov ov) \/
   (∃ t, kg (s.drop p) p = .ok t /\ run U ba [.ptr b 0] m = some (.ret (.int .i64 0) m') /\ Laid m m' b s ov l t (p + t.text.length))) -> (∃ e : Nat, 0 < e /\ (∀ k, iT (k + 1) (s.drop p) p = .bad e p) /\ run U ba [.ptr b 0] m = some (.ret (.int .i64 (e : Int)) m') /\ Sn m' b s p ov l /\ Kn m m' b ov ov) \/
   (∃ t : Tok, 0 < t.text.length /\ p + t.text.length <= s.length /\ (∀ k, iT (k + 1) (s.drop p) p = (iT k (s.drop (p + t.text.length)) (p + t.text.length)).map (t :: ·)) /\ run U ba [.ptr b 0] m = some (.ret (.int .i64 0) m') /\ Laid m m' b s ov l t (p + t.text.length)) := by
  rintro n1 n2 m' (⟨e, q, h1, h2, h3, h4⟩ | ⟨t, h1, h2, h3⟩)
  ·obtain ⟨rfl, he⟩ := IU dO h1
   exact .inl ⟨e, he, fun k => by rw [step, if_neg n1, if_neg n2, h1], h2, h3, h4⟩
  ·obtain ⟨g1, g2, _, _⟩ := yQ dO h1
   exact .inr ⟨t, g1, by omega, fun k => by rw [step, if_neg n1, if_neg n2, h1]; simp only; rw [List.drop_drop], h2, h3⟩
 by_cases c1 : eI (cI c) = 1
 ·have hb := vd.1 c1
  have hl := mS er (s.drop p)
  obtain ⟨m', e1, e2, e3⟩ := K8 h hs hc c1
  refine ⟨m', .inl ⟨lead er (s.drop p), by rw [hc, lead, if_pos hb]; omega, by omega, fun k => by rw [step, if_pos hb, List.drop_drop], e1, e2, e3⟩⟩
 have nb : ¬ er (cI c) := fun q => c1 (vd.2 q)
 by_cases c2 : eI (cI c) = 2
 ·have hb := z5.1 c2
  have hl := mS (fun n => n ≠ 10) (s.drop p)
  obtain ⟨m', e1, e2, e3⟩ := IZ h hs hc c2
  refine ⟨m', .inl ⟨ej (s.drop p), by rw [hc]; unfold ej; rw [lead, if_pos (by omega)]; omega, by unfold ej; omega, fun k => by rw [step, if_neg nb, if_pos hb, List.drop_drop], e1, e2, e3⟩⟩
 have nr : ¬ cI c = 35 := fun q => c2 (z5.2 q)
 by_cases c3 : eI (cI c) = 3
 ·obtain ⟨m', hh⟩ := I0 h hs hc c3
  exact ⟨m', .inr (tok nb nr m' hh)⟩
 by_cases c4 : eI (cI c) = 4
 ·obtain ⟨m', hh⟩ := K7 h hs hc c4
  exact ⟨m', .inr (tok nb nr m' hh)⟩
 by_cases c5 : eI (cI c) = 5
 ·obtain ⟨m', hh⟩ := Oq h hs hc c5
  exact ⟨m', .inr (tok nb nr m' hh)⟩
 have c0 : eI (cI c) = 0 := by omega
 obtain ⟨m', e1, e2, e3⟩ := Ot h hs hc c0
 exact ⟨m', .inr (.inl ⟨6, by decide, fun k => by rw [step, if_neg nb, if_neg nr, hc, K0 c0], e1, e2, e3⟩)⟩
theorem N3 {s : bZ} (hs : s.length < 1000000) {fb b : Nat} {ov : EV} {fr : Fr} {m0 : Mem} (h : Sn m0 b s 0 ov []) (hfb : fb < b) (hb : m0.get fb = .cells [.int .i64 0, .int .i64 0] 2 bI false) (h0 : fr.get 0 = .str s) (h3 : fr.get 3 = .ptr fb 0) (h4 : fr.get 4 = .ptr b 0) (hd : fr.defers = []) :
  ∃ o, exec U (.loop eC) fr m0 = some o /\ ((∃ l, iT (s.length + 1) s 0 = .ok l /\ ∃ fr' m' Io, o = .exit 0 fr' m' /\ Sn m' b s s.length Io l /\ m'.get fb = .cells [.int .i64 0, .int .i64 0] 2 bI false /\ fr'.get 3 = .ptr fb 0 /\ fr'.get 4 = .ptr b 0 /\ fr'.defers = []) \/
   (∃ e p, iT (s.length + 1) s 0 = .bad e p /\ ∃ fr' m', o = .ret fr' m' /\ fr'.get 2 = .ae /\ m'.get fb = .cells [.int .i64 (e : Int), .int .i64 (p : Int)] 2 bI false /\ fr'.get 3 = .ptr fb 0 /\ fr'.defers = [])) := by
 refine ia (σ := Nat) (fun p fr m => (∃ ov l k, Sn m b s p ov l /\ s.length - p < k /\ iT (s.length + 1) s 0 = (iT k (s.drop p) p).map (l ++ ·)) /\ m.get fb = .cells [.int .i64 0, .int .i64 0] 2 bI false /\ fr.get 0 = .str s /\ fr.get 3 = .ptr fb 0 /\ fr.get 4 = .ptr b 0 /\ fr.defers = []) (fun p => s.length - p) _ ?_ 0 fr m0
  ⟨⟨ov, [], s.length + 1, h, by omega, by rw [List.drop_zero]; cases iT (s.length + 1) s 0 <;> rfl⟩, hb, h0, h3, h4, hd⟩
 rintro p fr m ⟨⟨ov, l, k, h, hk, hr⟩, hb, h0, h3, h4, hd⟩
 generalize hX : exec U eC fr m = X
 have hg := h.g
 have bt := h.lt
 by_cases hp : p < s.length
 ·have hc : (p : Int) < (s.length : Int) := by omega
  obtain ⟨k, rfl⟩ : ∃ k', k = k' + 1 := ⟨k - 1, by omega⟩
  obtain ⟨m', hh⟩ := QC h hs hp
  have rG : ∀ {Io : EV}, Kn m m' b ov Io -> m'.get fb = .cells [.int .i64 0, .int .i64 0] 2 bI false := fun q => by
   rw [q.k fb (by omega) (by omega) (h.o.lt (.inr (by omega))), hb]
  rcases hh with ⟨j, j1, j2, j3, e1, e2, e3⟩ | ⟨e, j1, j3, e1, e2, e3⟩ | ⟨t, j1, j2, j3, e1, Io, e2, e3⟩
  ·simp +contextual -implicitDefEqProofs (maxSteps := 1000000) (maxDischargeDepth := 8) only [eC, h0, h3, h4, hd, hg, bt, hc, e1, aq, aa, implies_true, simprocAttr] at hX
   subst hX;rw [j3] at hr;exact et (p + j) (by omega) ⟨⟨ov, l, k, e2, by omega, hr⟩, rG e3, by simp only [h0, ap, Nat.reduceBEq ], by simp only [h3, ap, Nat.reduceBEq ], by simp only [h4, ap, Nat.reduceBEq ], by simp only [hd, ap, Nat.reduceBEq ]⟩
  ·have iQ : ¬ ((e : Int) = 0) := by omega
   have VG := e2.g
   have mG := e2.lt
   have BI := rG e3
   have FE : fb < m'.next := by omega
   simp +contextual -implicitDefEqProofs (maxSteps := 1000000) (maxDischargeDepth := 8) only [eC, h0, h3, h4, hd, hg, bt, hc, e1, iQ, VG, mG, BI, FE, aq, aa, implies_true, simprocAttr] at hX
   subst hX;rw [j3] at hr;exact kl (Or.inr ⟨e, p, hr, _, _, rfl, by simp only [ap, simprocAttr], by simp +contextual -implicitDefEqProofs (maxSteps := 1000000) (maxDischargeDepth := 8) only [BI, FE, Kq, Ko, Km, Kl, Kk, Kj, aa, implies_true, simprocAttr], by simp only [h3, ap, simprocAttr], by simp only [hd, ap, simprocAttr]⟩)
  ·simp +contextual -implicitDefEqProofs (maxSteps := 1000000) (maxDischargeDepth := 8) only [eC, h0, h3, h4, hd, hg, bt, hc, e1, aq, aa, implies_true, simprocAttr] at hX
   subst hX;rw [j3, E6.map_map] at hr;refine et (p + t.text.length) (by omega) ⟨⟨Io, l ++ [t], k, e2, by omega, ?_⟩, rG e3, by simp only [h0, ap, Nat.reduceBEq ], by simp only [h3, ap, Nat.reduceBEq ], by simp only [h4, ap, Nat.reduceBEq ], by simp only [hd, ap, Nat.reduceBEq ]⟩
   rw [hr]; simp only [List.append_assoc, List.cons_append, List.nil_append]
 ·have hc : ¬ ((p : Int) < (s.length : Int)) := by omega
  obtain rfl : p = s.length := by have := h.le; omega
  simp +contextual -implicitDefEqProofs (maxSteps := 1000000) (maxDischargeDepth := 8) only [eC, h0, h3, h4, hd, hg, bt, hc, aq, aa, implies_true, simprocAttr] at hX
  subst hX;obtain ⟨k, rfl⟩ : ∃ k', k = k' + 1 := ⟨k - 1, by omega⟩
  rw [List.drop_length] at hr;simp only [iT, E6.map, List.append_nil] at hr;exact fi (Or.inl ⟨l, hr, _, _, ov, rfl, h, hb, by simp only [h3, ap, Nat.reduceBEq ], by simp only [h4, ap, Nat.reduceBEq ], by simp only [hd, ap, Nat.reduceBEq ]⟩)
theorem Li {s : bZ} (hs : s.length < 1000000) : bA B K Hm [.str s] = some (OC (uS s)) := by
 rw [dQ (by simp [fV])]
 generalize hL : exec (UT B K) (aH.loop eC) = L
 by_cases h6 : 65536 < s.length
 ·have hc : (65536 : Int) < (s.length : Int) := by omega
  have : uS s = .bad 3 0 := if_pos h6
  rw [this];simp +contextual -implicitDefEqProofs (maxSteps := 1000000) (maxDischargeDepth := 8) only [fV, hc, OC, aq, aa, implies_true, simprocAttr]
 ·have hc : ¬ (65536 : Int) < (s.length : Int) := by omega
  rw [P7 (by omega)];simp +contextual -implicitDefEqProofs (maxSteps := 1000000) (maxDischargeDepth := 8) only [fV, hc, aq, aa, implies_true, simprocAttr]
  subst hL;generalize hX : exec _ (.loop eC) _ _ = X
  generalize YX : ext bR _ = M0 at hX ⊢
  have hfb : nb bR.next 0 < nb bR.next 1 := by unfold nb; omega
  have hS : Sn M0 (nb bR.next 1) s 0 .ae [] := by
   refine ⟨?_, ?_, ⟨.inl ⟨rfl, rfl, rfl⟩, rfl⟩, lu _, lu _⟩
   ·rw [<- YX, aK rfl (by simp)]; rfl
   ·rw [<- YX, aM]; unfold nb; simp
  have hf : M0.get (nb bR.next 0) = .cells [.int .i64 0, .int .i64 0] 2 bI false := by rw [<- YX, aK rfl (by simp)]; rfl
  clear YX;generalize nb bR.next 0 = fb at *
  generalize nb bR.next 1 = b at *
  obtain ⟨o, rfl, hh⟩ := hZ hX (N3 hs hS hfb hf (by simp only [ap, Nat.reduceBEq ]) (by simp only [ap, Nat.reduceBEq ]) (by simp only [ap, Nat.reduceBEq ]) (by simp only [ap, Nat.reduceBEq ]))
  rcases hh with ⟨l, hl, fr', m', Io, rfl, h2, BI, f3, f4, fd⟩ | ⟨e, p, hl, fr', m', rfl, f2, BI, f3, fd⟩
  ·rw [hl]
   obtain ⟨m2, KW, e2, o2, g2, k2⟩ := uQ h2 (k := 0) (n := 0) (num := 0) (by omega) hs (by omega)
   have O8 : run U fJ [.ptr b 0, .int .i64 0, .int .i64 0, .int .i64 0] m' = some (.ret (.tuple []) m2) := e2
   have hf3 : m2.get fb = .cells [.int .i64 0, .int .i64 0] 2 bI false := by rw [k2.k fb (by have := h2.lt; omega) (by omega) (h2.o.lt (.inr (by omega))), BI]
   have mG : b < m2.next := by have := k2.n; have := h2.lt; omega
   have tf : fb < m2.next := by omega
   have hfz : lX (m2.set fb (.cells [.int .i64 0, .int .i64 0] 2 bI false)) KW = some (.fz 0 4 (mr (l ++ [⟨0, [], 0, s.length⟩]))) := by
    refine jz.TF (n := l.length + 1) (lo := b + 1) (o2.gF (by rw [cf]; exact fh _) fun c _ nv _ => az (by omega)) (by simp [mr]) (by omega) (PW _) (KA _)
   rw [Nat.add_zero] at g2;simp +contextual -implicitDefEqProofs (maxSteps := 1000000) (maxDischargeDepth := 8) only [f3, f4, fd, O8, g2, hf3, mG, tf, hfz, OC, E6.map, aq, aa, implies_true, simprocAttr]
  ·rw [hl]
   simp +contextual -implicitDefEqProofs (maxSteps := 1000000) (maxDischargeDepth := 8) only [f2, f3, fd, BI, OC, E6.map, aq, aa, implies_true, simprocAttr]
end
section
def oY (l : List Tok) : RS := match lW l (8 * l.length + 5) (.qX []) .start with
 | some (s, r) => s.put (nd 26 r 0 [] 0)
 | none => .start
def Ms (s : RS) : EV := if s.fe = 0 then .tuple [.fz 0 5 (qS s.tree), .agg [.int .i64 0, .int .i64 0]] else .tuple [.ae, .agg [.int .i64 s.fe, .int .i64 s.fp]]
def KV (s : bZ) : EV := match uS s with
 | .ok l => Ms (oY l)
 | .bad e p => .tuple [.ae, .agg [.int .i64 (e : Int), .int .i64 (p : Int)]]
def R8 (l : List Tok) (tg k : Nat) : Prop := ∀ (out : List Int) (v pv : EV) (st : RS) (fr : Fr) (m : Mem) (b n0 bx : Nat) (P : Nat -> Prop) (s1 : RS) (r : List Int) (X : Option Out), ez l st -> 8 * (l.length - st.pos) + (PC.qX out).bg < k -> out.length <= st.pos -> lW l k (.qX out) st = some (s1, r) -> Rd m b tg l st (Pv P v) -> (∀ c, P c -> c < n0) -> n0 <= m.next -> jz m v (is out) out.length 1 n0 -> (out = [] -> v = .ae) -> m.get bx = .cells [.ptr b 0] 1 ah false -> P bx -> fr.get 3 = pv -> fr.get 6 = .ptr bx 0 -> fr.get 7 = v -> fr.defers = [] -> exec U (.loop br) fr m = X -> ∃ fr' m' v', X = some (.exit 0 fr' m') /\ fr'.get 3 = pv /\ fr'.get 6 = .ptr bx 0 /\ fr'.get 7 = v' /\ fr'.defers = [] /\ jz m' v' (is r) r.length 1 n0 /\ Rd m' b tg l s1 (Pv P v') /\ Kp m m' P /\ (r = [] -> v' = .ae)
theorem RE {l : List Tok} {tg : Nat} (ht : bS l) {k : Nat} (ih : R8 l tg k) : R8 l tg (k + 1) := by
 intro out v pv st fr m b n0 bx P s1 r X o hk hm bM h hP uu dJ hz xu px h3 h6 h7 hd hX
 have hlen : ∀ M, BE v M = some (.val (.int .i64 (out.length : Int)) M) := fun M => by
  rcases dJ.is with ⟨rfl, q, _⟩ | ⟨kb, cap, t, rfl, _⟩
  ·rw [q]; rfl
  ·rfl
 have hF := xC (b := b) (tg := tg) (l := l) (st := st) (P := Pv P v)
 have hT := jE (b := b) (tg := tg) (P := Pv P v) ht o
 have hI := Vj (b := b) (tg := tg) (P := Pv P v) ht o
 have nx := h.mb (.inl px)
 rw [eP] at hX;generalize hL : exec U (.loop br) = L at hX
 have FB : (((st.now l).kind : Int) = 0) = ((st.now l).kind = 0) := propext (by omega)
 have OY : ((out.length : Int) = 200) = (out.length = 200) := propext (by omega)
 simp only [lW] at bM;by_cases hf : st.fe = 0
 ·by_cases Sx : (st.now l).kind = 0
  ·rw [if_neg (fun q => q.2 Sx)] at bM
   obtain ⟨rfl, rfl⟩ := eM _ _ _ _ ▸ pE bM
   simp +contextual -implicitDefEqProofs (maxSteps := 1000000) (maxDischargeDepth := 8) only [br, h3, h6, h7, hd, xu, nx, hF, hT, h, hf, FB, Sx, fY, fA, ak, aq, aa, implies_true, simprocAttr] at hX
   subst hX;exact ⟨_, _, v, rfl, by simp only [h3, ap, Nat.reduceBEq ], by simp only [h6, ap, Nat.reduceBEq ], by simp only [h7, ap, Nat.reduceBEq ], by simp only [hd, ap, Nat.reduceBEq ], dJ.kp ((aQ h).trans (aQ (ak h))) fun c hc => .inr hc, ak (ak h), ((aQ h).trans (aQ (ak h))).bO fun c hc => .inl hc, hz⟩
  ·rw [if_pos ⟨hf, Sx⟩] at bM
   by_cases hc : out.length = 200 /\ st.is l Ap
   ·rw [if_pos hc] at bM
    obtain ⟨c1, c2⟩ := hc
    have c2' : st.is l [102, 110] := c2
    simp +contextual -implicitDefEqProofs (maxSteps := 1000000) (maxDischargeDepth := 8) only [br, h3, h6, h7, hd, xu, nx, hF, hT, hI, h, hf, FB, Sx, hlen, OY, c1, c2', fY, fA, ak, aq, aa, implies_true, simprocAttr] at hX
    generalize hC : run U dR _ _ = C at hX
    have rb := ak (k := 19) (ak (k := 7) (ak (k := 20) (ak (k := 19) (ak (k := 2) h))))
    have kb := ((((aQ (k := 2) h).trans (aQ (k := 19) (ak (k := 2) h))).trans (aQ (k := 20) (ak (k := 19) (ak (k := 2) h)))).trans (aQ (k := 7) (ak (k := 20) (ak (k := 19) (ak (k := 2) h))))).trans (aQ (k := 19) (ak (k := 7) (ak (k := 20) (ak (k := 19) (ak (k := 2) h)))))
    obtain ⟨m2, rfl, r2, k2⟩ := JL rb hC
    clear hC;have g2 : Gr l st (st.fail 3 (st.now l).pos) := .fail o.p (by decide)
    have p0 : (st.fail 3 (st.now l).pos).pos = st.pos := cU.1
    have Gj := kb.trans k2
    generalize st.fail 3 (st.now l).pos = S0 at *
    have o2 := g2.ok o
    have PE := (Gj.k _ (.inl px)).trans xu
    have Uj := r2.mb (.inl px)
    have Uy : 8 * (l.length - S0.pos) + PC.func.bg < k := by rw [p0]; simp only [PC.bg] at *; omega
    obtain ⟨s2, rr, e, g, a, mo⟩ := kP ht k .func S0 o2.p Uy trivial
    obtain ⟨y, rfl⟩ := jI a
    simp only [e, Option.bind_some] at bM;have o3 := g.ok o2
    obtain ⟨k', rfl⟩ : ∃ k', k = k' + 1 := ⟨k - 1, by simp only [PC.bg] at *; omega⟩
    simp +contextual -implicitDefEqProofs (maxSteps := 1000000) (maxDischargeDepth := 8) only [h3, h6, h7, hd, PE, Uj, aq, aa, implies_true, simprocAttr] at hX
    generalize hC : run U fI _ _ = C at hX
    obtain ⟨m3, rfl, r3, k3⟩ := ED ht o2 Uy e r2 hC
    clear hC;have MK := (Gj.trans k3).bO (Q := P) fun c hc => .inl hc
    have mf := dJ.kp (Gj.trans k3) fun c hc => .inr hc
    obtain ⟨v2, M2, ha, nu, r4, k4⟩ := rv (x := y) r3 hP (pJ uu MK.n) mf (by have := o.p; have := ht.lt; omega)
    have CA := MK.trans k4
    have UG := (CA.k _ px).trans xu
    simp +contextual -implicitDefEqProofs (maxSteps := 1000000) (maxDischargeDepth := 8) only [ha, h3, h6, List.headD_cons, aq, aa, implies_true, simprocAttr] at hX
    subst hL;by_cases BI : s2.fe = 0
    ·rw [if_pos BI] at bM
     have bt := mo BI
     have HA := g.pl
     obtain ⟨fr', m', v', rfl, q3, q6, q7, qd, qo, qr, qk, qz⟩ := ih (out ++ [y]) v2 pv _ _ _ _ n0 bx P _ _ _ o3 (by simp only [PC.bg] at *; omega) (by rw [ja, List.length_singleton]; omega) bM r4 hP (pJ uu CA.n) nu (by simp) UG px (by simp only [h3, ap, Nat.reduceBEq ]) (by simp only [h6, ap, Nat.reduceBEq ]) (by simp only [ap, Nat.reduceBEq ]) (by simp only [hd, ap, Nat.reduceBEq ]) hX
     exact ⟨fr', m', v', rfl, q3, q6, q7, qd, qo, qr, CA.trans qk, qz⟩
    ·rw [if_neg BI] at bM
     obtain ⟨rfl, rfl⟩ := eM _ _ _ _ ▸ pE bM
     have W9 := r4.mb (.inl px)
     have XW := xC (b := b) (tg := tg) (l := l) (st := s2) (P := Pv P v2)
     rw [eP] at hX;generalize exec U (.loop br) = L at hX
     simp +contextual -implicitDefEqProofs (maxSteps := 1000000) (maxDischargeDepth := 8) only [br, h3, h6, hd, UG, W9, XW, r4, BI, fA, aq, aa, implies_true, simprocAttr] at hX
     subst hX;exact ⟨_, _, v2, rfl, by simp only [h3, ap, Nat.reduceBEq ], by simp only [h6, ap, Nat.reduceBEq ], by simp only [ap, Nat.reduceBEq ], by simp only [hd, ap, Nat.reduceBEq ], nu.kp (aQ r4) fun c hc => .inr hc, ak r4, CA.trans ((aQ r4).bO fun c hc => .inl hc), by simp⟩
   ·rw [if_neg hc] at bM
    by_cases c1 : out.length = 200
    ·have c2' : ¬ st.is l [102, 110] := fun q => hc ⟨c1, q⟩
     simp +contextual -implicitDefEqProofs (maxSteps := 1000000) (maxDischargeDepth := 8) only [br, h3, h6, h7, hd, xu, nx, hF, hT, hI, h, hf, FB, Sx, hlen, OY, c1, c2', fY, fA, ak, aq, aa, implies_true, simprocAttr] at hX
     have r2 := ak (k := 20) (ak (k := 19) (ak (k := 2) h))
     have Gj := ((aQ (k := 2) h).trans (aQ (k := 19) (ak (k := 2) h))).trans (aQ (k := 20) (ak (k := 19) (ak (k := 2) h)))
     have g2 : Gr l st st := .refl o.p
     have p0 : st.pos = st.pos := rfl
     generalize bump (bump (bump m 2) 19) 20 = m2 at *
     have o2 := o
     have PE := (Gj.k _ (.inl px)).trans xu
     have Uj := r2.mb (.inl px)
     have Uy : 8 * (l.length - st.pos) + PC.func.bg < k := by simp only [PC.bg] at *; omega
     obtain ⟨s2, rr, e, g, a, mo⟩ := kP ht k .func st o2.p Uy trivial
     obtain ⟨y, rfl⟩ := jI a
     simp only [e, Option.bind_some] at bM;have o3 := g.ok o2
     obtain ⟨k', rfl⟩ : ∃ k', k = k' + 1 := ⟨k - 1, by simp only [PC.bg] at *; omega⟩
     generalize hC : run U fI _ _ = C at hX
     obtain ⟨m3, rfl, r3, k3⟩ := ED ht o2 Uy e r2 hC
     clear hC;have MK := (Gj.trans k3).bO (Q := P) fun c hc => .inl hc
     have mf := dJ.kp (Gj.trans k3) fun c hc => .inr hc
     obtain ⟨v2, M2, ha, nu, r4, k4⟩ := rv (x := y) r3 hP (pJ uu MK.n) mf (by have := o.p; have := ht.lt; omega)
     have CA := MK.trans k4
     have UG := (CA.k _ px).trans xu
     simp +contextual -implicitDefEqProofs (maxSteps := 1000000) (maxDischargeDepth := 8) only [ha, h3, h6, List.headD_cons, aq, aa, implies_true, simprocAttr] at hX
     subst hL;by_cases BI : s2.fe = 0
     ·rw [if_pos BI] at bM
      have bt := mo BI
      have HA := g.pl
      obtain ⟨fr', m', v', rfl, q3, q6, q7, qd, qo, qr, qk, qz⟩ := ih (out ++ [y]) v2 pv _ _ _ _ n0 bx P _ _ _ o3 (by simp only [PC.bg] at *; omega) (by rw [ja, List.length_singleton]; omega) bM r4 hP (pJ uu CA.n) nu (by simp) UG px (by simp only [h3, ap, Nat.reduceBEq ]) (by simp only [h6, ap, Nat.reduceBEq ]) (by simp only [ap, Nat.reduceBEq ]) (by simp only [hd, ap, Nat.reduceBEq ]) hX
      exact ⟨fr', m', v', rfl, q3, q6, q7, qd, qo, qr, CA.trans qk, qz⟩
     ·rw [if_neg BI] at bM
      obtain ⟨rfl, rfl⟩ := eM _ _ _ _ ▸ pE bM
      have W9 := r4.mb (.inl px)
      have XW := xC (b := b) (tg := tg) (l := l) (st := s2) (P := Pv P v2)
      rw [eP] at hX;generalize exec U (.loop br) = L at hX
      simp +contextual -implicitDefEqProofs (maxSteps := 1000000) (maxDischargeDepth := 8) only [br, h3, h6, hd, UG, W9, XW, r4, BI, fA, aq, aa, implies_true, simprocAttr] at hX
      subst hX;exact ⟨_, _, v2, rfl, by simp only [h3, ap, Nat.reduceBEq ], by simp only [h6, ap, Nat.reduceBEq ], by simp only [ap, Nat.reduceBEq ], by simp only [hd, ap, Nat.reduceBEq ], nu.kp (aQ r4) fun c hc => .inr hc, ak r4, CA.trans ((aQ r4).bO fun c hc => .inl hc), by simp⟩
    ·have c1 := c1
     simp +contextual -implicitDefEqProofs (maxSteps := 1000000) (maxDischargeDepth := 8) only [br, h3, h6, h7, hd, xu, nx, hF, hT, hI, h, hf, FB, Sx, hlen, OY, c1, fY, fA, ak, aq, aa, implies_true, simprocAttr] at hX
     have r2 := ak (k := 19) (ak (k := 2) h)
     have Gj := (aQ (k := 2) h).trans (aQ (k := 19) (ak (k := 2) h))
     have g2 : Gr l st st := .refl o.p
     have p0 : st.pos = st.pos := rfl
     generalize bump (bump m 2) 19 = m2 at *
     have o2 := o
     have PE := (Gj.k _ (.inl px)).trans xu
     have Uj := r2.mb (.inl px)
     have Uy : 8 * (l.length - st.pos) + PC.func.bg < k := by simp only [PC.bg] at *; omega
     obtain ⟨s2, rr, e, g, a, mo⟩ := kP ht k .func st o2.p Uy trivial
     obtain ⟨y, rfl⟩ := jI a
     simp only [e, Option.bind_some] at bM;have o3 := g.ok o2
     obtain ⟨k', rfl⟩ : ∃ k', k = k' + 1 := ⟨k - 1, by simp only [PC.bg] at *; omega⟩
     generalize hC : run U fI _ _ = C at hX
     obtain ⟨m3, rfl, r3, k3⟩ := ED ht o2 Uy e r2 hC
     clear hC;have MK := (Gj.trans k3).bO (Q := P) fun c hc => .inl hc
     have mf := dJ.kp (Gj.trans k3) fun c hc => .inr hc
     obtain ⟨v2, M2, ha, nu, r4, k4⟩ := rv (x := y) r3 hP (pJ uu MK.n) mf (by have := o.p; have := ht.lt; omega)
     have CA := MK.trans k4
     have UG := (CA.k _ px).trans xu
     simp +contextual -implicitDefEqProofs (maxSteps := 1000000) (maxDischargeDepth := 8) only [ha, h3, h6, List.headD_cons, aq, aa, implies_true, simprocAttr] at hX
     subst hL;by_cases BI : s2.fe = 0
     ·rw [if_pos BI] at bM
      have bt := mo BI
      have HA := g.pl
      obtain ⟨fr', m', v', rfl, q3, q6, q7, qd, qo, qr, qk, qz⟩ := ih (out ++ [y]) v2 pv _ _ _ _ n0 bx P _ _ _ o3 (by simp only [PC.bg] at *; omega) (by rw [ja, List.length_singleton]; omega) bM r4 hP (pJ uu CA.n) nu (by simp) UG px (by simp only [h3, ap, Nat.reduceBEq ]) (by simp only [h6, ap, Nat.reduceBEq ]) (by simp only [ap, Nat.reduceBEq ]) (by simp only [hd, ap, Nat.reduceBEq ]) hX
      exact ⟨fr', m', v', rfl, q3, q6, q7, qd, qo, qr, CA.trans qk, qz⟩
     ·rw [if_neg BI] at bM
      obtain ⟨rfl, rfl⟩ := eM _ _ _ _ ▸ pE bM
      have W9 := r4.mb (.inl px)
      have XW := xC (b := b) (tg := tg) (l := l) (st := s2) (P := Pv P v2)
      rw [eP] at hX;generalize exec U (.loop br) = L at hX
      simp +contextual -implicitDefEqProofs (maxSteps := 1000000) (maxDischargeDepth := 8) only [br, h3, h6, hd, UG, W9, XW, r4, BI, fA, aq, aa, implies_true, simprocAttr] at hX
      subst hX;exact ⟨_, _, v2, rfl, by simp only [h3, ap, Nat.reduceBEq ], by simp only [h6, ap, Nat.reduceBEq ], by simp only [ap, Nat.reduceBEq ], by simp only [hd, ap, Nat.reduceBEq ], nu.kp (aQ r4) fun c hc => .inr hc, ak r4, CA.trans ((aQ r4).bO fun c hc => .inl hc), by simp⟩
 ·rw [if_neg (fun q => hf q.1)] at bM
  obtain ⟨rfl, rfl⟩ := eM _ _ _ _ ▸ pE bM
  simp +contextual -implicitDefEqProofs (maxSteps := 1000000) (maxDischargeDepth := 8) only [br, h3, h6, h7, hd, xu, nx, hF, hT, h, hf, fY, fA, ak, aq, aa, implies_true, simprocAttr] at hX
  subst hX;exact ⟨_, _, v, rfl, by simp only [h3, ap, Nat.reduceBEq ], by simp only [h6, ap, Nat.reduceBEq ], by simp only [h7, ap, Nat.reduceBEq ], by simp only [hd, ap, Nat.reduceBEq ], dJ.kp (aQ h) fun c hc => .inr hc, ak h, (aQ h).bO fun c hc => .inl hc, hz⟩
theorem PM {l : List Tok} {tg : Nat} (ht : bS l) : ∀ k, R8 l tg k := by
 intro k
 induction k with
 | zero => exact fun _ _ _ _ _ _ _ _ _ _ _ _ _ _ q => absurd q (by omega)
 | succ k ih => exact RE ht ih
theorem Oh {s : bZ} (hs : s.length < 1000000) (ht : ∀ l, uS s = .ok l -> bS l) (he : ∀ e p, uS s = .bad e p -> 0 < e) : bA B K qU [.str s] = some (KV s) := by
 have hL := Li hs
 rw [dQ (by simp [eT])]
 generalize hLp : exec (UT B K) (aH.loop br) = L
 unfold KV;generalize hR : uS s = R at *
 cases R with
 | bad e p =>
  simp only
  unfold OC at hL;simp only at hL
  have he : ¬ ((e : Int) = 0) := by have := he e p rfl; omega
  simp +contextual -implicitDefEqProofs (maxSteps := 1000000) (maxDischargeDepth := 8) only [eT, hL, he, aq, aa, implies_true, simprocAttr]
 | ok l =>
  have ht := ht l rfl
  unfold OC at hL;simp only at hL ⊢
  have hN : ∀ M, run U Lg [.fz 0 4 (mr l)] M = some (.ret (.ptr (nb M.next 0) 0) (ext M [.cells (aZ 0 l .start .ae .ae) 7 ai false])) := fun M => by
   rw [bX (by simp [jV])]
   simp +contextual -implicitDefEqProofs (maxSteps := 1000000) (maxDischargeDepth := 8) only [jV, aq, aa, implies_true, simprocAttr]
   rfl
  generalize hX : pF eT.results _ = X
  simp +contextual -implicitDefEqProofs (maxSteps := 1000000) (maxDischargeDepth := 8) only [eT, hL, hN, aq, aa, implies_true, simprocAttr] at hX
  have hn : (bump (ext bR [.cells [.int .i64 0, .int .i64 0] 2 bI false]) 1).next = nb bR.next 2 := by rw [bz, aM, e6]; rfl
  have ga : (bump (ext bR [.cells [.int .i64 0, .int .i64 0] 2 bI false]) 1).get (nb bR.next 0) = .cells [.int .i64 0, .int .i64 0] 2 bI false := by rw [gP, aK rfl (by simp)]; rfl
  generalize bump (ext bR [.cells [.int .i64 0, .int .i64 0] 2 bI false]) 1 = MA at *
  have uu : (ext MA [.cells [.int .i64 0, .int .i64 0] 2 bI false, .cells (aZ 0 l .start .ae .ae) 7 ai false, .cells [.ptr (nb bR.next 3) 0] 1 ah false]).next = nb bR.next 5 := by rw [aM, hn, e6]; rfl
  have g0 : (ext MA [.cells [.int .i64 0, .int .i64 0] 2 bI false, .cells (aZ 0 l .start .ae .ae) 7 ai false, .cells [.ptr (nb bR.next 3) 0] 1 ah false]).get (nb bR.next 0) = .cells [.int .i64 0, .int .i64 0] 2 bI false := by rw [aL (by rw [hn]; unfold nb; omega)]; exact ga
  have g3 : (ext MA [.cells [.int .i64 0, .int .i64 0] 2 bI false, .cells (aZ 0 l .start .ae .ae) 7 ai false, .cells [.ptr (nb bR.next 3) 0] 1 ah false]).get (nb bR.next 3) = .cells (aZ 0 l .start .ae .ae) 7 ai false := by
   have : (ext MA [.cells [.int .i64 0, .int .i64 0] 2 bI false, .cells (aZ 0 l .start .ae .ae) 7 ai false, .cells [.ptr (nb bR.next 3) 0] 1 ah false]).get (nb MA.next 1) = .cells (aZ 0 l .start .ae .ae) 7 ai false := by rw [aK rfl (by simp)]; rfl
   rw [hn, e6] at this; exact this
  have g4 : (ext MA [.cells [.int .i64 0, .int .i64 0] 2 bI false, .cells (aZ 0 l .start .ae .ae) 7 ai false, .cells [.ptr (nb bR.next 3) 0] 1 ah false]).get (nb bR.next 4) = .cells [.ptr (nb bR.next 3) 0] 1 ah false := by
   have : (ext MA [.cells [.int .i64 0, .int .i64 0] 2 bI false, .cells (aZ 0 l .start .ae .ae) 7 ai false, .cells [.ptr (nb bR.next 3) 0] 1 ah false]).get (nb MA.next 2) = .cells [.ptr (nb bR.next 3) 0] 1 ah false := by rw [aK rfl (by simp)]; rfl
   rw [hn, e6] at this; exact this
  generalize ext MA [.cells [.int .i64 0, .int .i64 0] 2 bI false, .cells (aZ 0 l .start .ae .ae) 7 ai false, .cells [.ptr (nb bR.next 3) 0] 1 ah false] = M0 at *
  have SB : E7 M0 (nb bR.next 3) 0 l .start (fun c => c = nb bR.next 0 \/ c = nb bR.next 4) .ae .ae [] := by
   refine ⟨g3, by rw [uu]; unfold nb; omega, ⟨.inl ⟨rfl, rfl, rfl⟩, rfl⟩, ⟨.inl ⟨rfl, rfl, rfl⟩, rfl⟩, fun _ _ => gz.nil, rfl, rfl, by simp, ?_, by simp⟩
   rintro c (rfl | rfl)
   ·exact ⟨by rw [uu]; unfold nb; omega, by unfold nb; omega, gz.nil, gz.nil⟩
   ·exact ⟨by rw [uu]; unfold nb; omega, by unfold nb; omega, gz.nil, gz.nil⟩
  have hk : 8 * (l.length - RS.start.pos) + (PC.qX []).bg < 8 * l.length + 5 := by simp only [RS.start, PC.bg]; omega
  obtain ⟨s1, r, e, g, ar, _⟩ := kP ht (8 * l.length + 5) (.qX []) .start (uC ht).p hk (lu _)
  have o1 := g.ok (uC ht)
  have Zg : Rd M0 (nb bR.next 3) 0 l .start (fun c => c = nb bR.next 0 \/ c = nb bR.next 4) := ⟨_, _, _, SB⟩
  generalize hC : exec (UT B K) (aH.loop br) _ _ = C at hX
  obtain ⟨fr', m1, v, rfl, q3, q6, q7, qd, dJ, r1, k1, hz⟩ := PM ht (8 * l.length + 5) [] .ae (.ptr (nb bR.next 0) 0) _ _ _ _ M0.next (nb bR.next 4) (fun c => c = nb bR.next 0 \/ c = nb bR.next 4) _ _ _ (uC ht) hk (lu _) e Zg.pv (fun c hc => Zg.mb hc) (fh _) ⟨.inl ⟨rfl, rfl, rfl⟩, rfl⟩ (fun _ => rfl) g4 (.inr rfl) (by simp only [ap, Nat.reduceBEq ]) (by simp only [ap, Nat.reduceBEq ]) (by simp only [ap, Nat.reduceBEq ]) (by simp only [ap, Nat.reduceBEq ]) hC
  clear hC;have hpf : oY l = s1.put (nd 26 r 0 [] 0) := by unfold oY; rw [e]
  rw [hpf];have b1 := (k1.k _ (.inr rfl)).trans g4
  have c1 := (k1.k _ (.inl rfl)).trans g0
  have n1 := r1.mb (.inl (.inr rfl))
  have n2 := r1.mb (.inl (.inl rfl))
  have Wt : v.cells = some [v] := by rcases dJ.is with ⟨rfl, _⟩ | ⟨_, _, _, rfl, _⟩ <;> rfl
  simp +contextual -implicitDefEqProofs (maxSteps := 1000000) (maxDischargeDepth := 8) only [q3, q6, q7, qd, b1, n1, Wt, aq, aa, implies_true, simprocAttr] at hX
  generalize hC : run U ay _ _ = C at hX
  obtain ⟨m2, rfl, r2, k2⟩ := pG (P := fun c => c = nb bR.next 0 \/ c = nb bR.next 4) (kids := r) ht o1 r1 (by have : r.length <= s1.pos + 1 := ar; have := o1.p; have := ht.lt; omega) dJ.Vd (fun c hc => .inr hc) (fun c hc => ⟨.inl hc, dJ.lt (.inr (Zg.mb hc))⟩) hz hC
  clear hC;have b2 := (k2.k _ (.inr rfl)).trans b1
  have c2 := (k2.k _ (.inl rfl)).trans c1
  have n3 := r2.mb (.inr rfl)
  have n4 := r2.mb (.inl rfl)
  have iQ : (s1.put (nd 26 r 0 [] 0)).fe = 0 -> (s1.put (nd 26 r 0 [] 0)).tree ≠ [] := by
   intro q
   have q2 : (s1.nh (nd 26 r 0 [] 0)).fe = 0 := BP fun w => by
    unfold RS.put at q; rw [if_neg w] at q; exact w q
   unfold RS.put; rw [if_pos q2]; simp
  have hsm : (s1.put (nd 26 r 0 [] 0)).tree.length < 1000000 := by
   have h1 : (s1.nh (nd 26 r 0 [] 0)).tree = s1.tree := by
    unfold RS.nh; split
    ·exact cU.2.2.1
    ·rfl
   have h2 : (s1.put (nd 26 r 0 [] 0)).tree.length <= s1.tree.length + 1 := by
    unfold RS.put; split
    ·simp
    ·rw [h1]; omega
   have := o1.t; have := o1.p; have := ht.lt; omega
  generalize s1.put (nd 26 r 0 [] 0) = s2 at *
  have hF := xC (b := nb bR.next 3) (tg := 0) (l := l) (st := s2) (P := fun c => c = nb bR.next 0 \/ c = nb bR.next 4)
  have hFa := VW (b := nb bR.next 3) (tg := 0) (l := l) (st := s2) (P := fun c => c = nb bR.next 0 \/ c = nb bR.next 4)
  by_cases im : s2.fe = 0
  ·simp +contextual -implicitDefEqProofs (maxSteps := 1000000) (maxDischargeDepth := 8) only [q3, q6, q7, qd, b2, n3, hF, r2, im, fY, ak, aq, aa, implies_true, simprocAttr] at hX
   have RD := ak (k := 2) r2
   have GG : (bump m2 2).get (nb bR.next 0) = .cells [.int .i64 0, .int .i64 0] 2 bI false := c2
   generalize bump m2 2 = m3 at *
   generalize hC : run U kO _ _ = C at hX
   obtain ⟨tv, hv, xs, RD⟩ := RD
   obtain ⟨m5, v5, e5, r5, w5, k5, c5, n5, rfl⟩ := PV RD (iQ im) hsm
   obtain rfl := hC.symm.trans e5
   have g5 := (k5.k _ (.inl rfl)).trans GG
   have hw5 : c5 ≠ nb bR.next 0 := by
    have := w5.Qx (c := c5) (fun q => q c5 0 n5 none rfl rfl)
    have := (RD.p _ (.inl rfl)).1
    omega
   have hl5 := (r5.p _ (.inl rfl)).1
   have r6 := r5.Qm (c0 := nb bR.next 0) (.inl rfl) (.cells [.int .i64 0, .int .i64 0] 2 bI false)
   have w6 : jz (m5.set (nb bR.next 0) (.cells [.int .i64 0, .int .i64 0] 2 bI false)) (.slice c5 0 n5 none) (Ip xs) xs.length 5 0 := w5.Vd.gF (fh _) fun c _ _ ho => az (by rw [cj ho]; exact hw5)
   have Lw : xs ≠ [] := fun q => iQ im (by rw [<- RD.x, q]; rfl)
   have hz := RF r6.k w6 Lw
   rw [RD.x] at hz;simp +contextual -implicitDefEqProofs (maxSteps := 1000000) (maxDischargeDepth := 8) only [q3, qd, g5, hl5, hz, aq, aa, implies_true, simprocAttr] at hX
   subst hX;simp only [Ms, im, if_true];simp +contextual -implicitDefEqProofs (maxSteps := 1000000) (maxDischargeDepth := 8) only [hz, aq, aa, implies_true, simprocAttr]
  ·simp +contextual -implicitDefEqProofs (maxSteps := 1000000) (maxDischargeDepth := 8) only [q3, q6, q7, qd, b2, n3, c2, n4, hF, hFa, r2, im, fA, ak, aq, aa, implies_true, simprocAttr] at hX
   subst hX;simp only [Ms, im, if_false];simp +contextual -implicitDefEqProofs (maxSteps := 1000000) (maxDischargeDepth := 8) only [c2, n4, aq, aa, implies_true, simprocAttr]
end
section
theorem Jd {s : bZ} {l : List Tok} (h : uS s = .ok l) : bS l /\ (∀ t ∈ l, t.kind = 1 -> t.text ≠ [] /\ nj t.text) /\ l.length <= s.length + 1 := by
 unfold uS at h
 split at h
 ·cases h
 ·rename_i h6
  cases hr : gi (s.length + 1) (s.drop (eU false s)) (eU false s) with
  | bad e q => rw [hr] at h; cases h
  | ok l2 =>
   rw [hr] at h;simp only [E6.map, E6.ok.injEq] at h;obtain ⟨i1, i2⟩ := DN _ _ _ _ hr
   rw [x9] at i1;have hlen : l.length = l2.length + 1 := by rw [<- h, ja]; rfl
   refine ⟨⟨by omega, by omega, ?_⟩, fun t ht hk => ?_, by omega⟩
   ·rw [hlen, List.getD_eq_getElem?_getD, Nat.add_sub_cancel, <- h, BO (fh _), Nat.sub_self]; rfl
   ·rw [<- h] at ht
    rcases uy.1 ht with ht | ht
    ·exact i2 t ht hk
    ·rw [Ar.1 ht] at hk; cases hk
end
section
def uc (n : Nat) (s : bZ) : bZ := (List.replicate n s).flatten
theorem D6 {n : Nat} {s : bZ} : uc (n + 1) s = uc n s ++ s := by unfold uc; rw [List.replicate_succ', List.flatten_append]; simp
theorem IJ {n : Nat} {s : bZ} : uc (n + 1) s = s ++ uc n s := by unfold uc; rw [List.replicate_succ]; simp
theorem pY {n : Nat} {s : bZ} : (uc n s).length = n * s.length := by unfold uc; simp
def GS : bZ := [102, 110, 32, 102, 40, 41, 32, 105, 110, 116, 32, 123, 125]
def FX (p : Nat) : List Tok := [⟨3, [102, 110], 0, p⟩, ⟨1, [102], 0, p + 3⟩, ⟨4, [40], 0, p + 4⟩, ⟨4, [41], 0, p + 5⟩, ⟨3, [105, 110, 116], 0, p + 7⟩, ⟨4, [123], 0, p + 11⟩, ⟨4, [125], 0, p + 12⟩]
def nI : Nat -> Nat -> List Tok
 | 0, _ => []
 | n + 1, p => FX p ++ nI n (p + 13)
theorem o1 (X : bZ) (p : Nat) : kg (102 :: 110 :: 32 :: X) p = .ok ⟨3, [102, 110], 0, p⟩ := rfl
theorem o2 (X : bZ) (p : Nat) : kg (102 :: 40 :: X) p = .ok ⟨1, [102], 0, p⟩ := rfl
theorem o3 (X : bZ) (p : Nat) : kg (40 :: 41 :: X) p = .ok ⟨4, [40], 0, p⟩ := rfl
theorem o4 (X : bZ) (p : Nat) : kg (41 :: 32 :: X) p = .ok ⟨4, [41], 0, p⟩ := rfl
theorem o5 (X : bZ) (p : Nat) : kg (105 :: 110 :: 116 :: 32 :: X) p = .ok ⟨3, [105, 110, 116], 0, p⟩ := rfl
theorem o6 (X : bZ) (p : Nat) : kg (123 :: 125 :: X) p = .ok ⟨4, [123], 0, p⟩ := rfl
theorem o7 (X : bZ) (p : Nat) : kg (125 :: 102 :: X) p = .ok ⟨4, [125], 0, p⟩ := rfl
theorem o8 (p : Nat) : kg [125] p = .ok ⟨4, [125], 0, p⟩ := rfl
theorem N1 {k p : Nat} {r : bZ} (hr : r = [] \/ ∃ r', r = 102 :: r') : gi (k + 7) (GS ++ r) p = (gi k r (p + 13)).map (FX p ++ ·) := by
 show gi (k + 6 + 1) (102 :: 110 :: 32 :: 102 :: 40 :: 41 :: 32 :: 105 :: 110 :: 116 :: 32 :: 123 :: 125 :: r) p = _
 rw [jD (by simp), o1]
 show (gi (k + 5 + 1) (102 :: 40 :: 41 :: 32 :: 105 :: 110 :: 116 :: 32 :: 123 :: 125 :: r) (p + 3)).map _ = _
 rw [jD (by simp), o2]
 show ((gi (k + 4 + 1) (40 :: 41 :: 32 :: 105 :: 110 :: 116 :: 32 :: 123 :: 125 :: r) (p + 4)).map _).map _ = _
 rw [jD (by simp), o3]
 show (((gi (k + 3 + 1) (41 :: 32 :: 105 :: 110 :: 116 :: 32 :: 123 :: 125 :: r) (p + 5)).map _).map _).map _ = _
 rw [jD (by simp), o4]
 show ((((gi (k + 2 + 1) (105 :: 110 :: 116 :: 32 :: 123 :: 125 :: r) (p + 7)).map _).map _).map _).map _ = _
 rw [jD (by simp), o5]
 show (((((gi (k + 1 + 1) (123 :: 125 :: r) (p + 11)).map _).map _).map _).map _).map _ = _
 rw [jD (by simp), o6]
 show ((((((gi (k + 1) (125 :: r) (p + 12)).map _).map _).map _).map _).map _).map _ = _
 rw [jD (by simp)];rcases hr with rfl | ⟨r', rfl⟩
 ·rw [o8]
  show (((((((gi k [] (p + 13)).map _).map _).map _).map _).map _).map _).map _ = _
  cases gi k [] (p + 13) <;> rfl
 ·rw [o7]
  show (((((((gi k (102 :: r') (p + 13)).map _).map _).map _).map _).map _).map _).map _ = _
  cases gi k (102 :: r') (p + 13) <;> rfl
theorem II (n : Nat) : uc n GS = [] \/ ∃ r', uc n GS = 102 :: r' := by
 cases n with
 | zero => exact .inl rfl
 | succ n => exact .inr ⟨_, IJ⟩
theorem Iy : ∀ (n k p : Nat), 13 * n < k -> gi k (uc n GS) p = .ok (nI n p)
 | 0, k + 1, p, h => rfl
 | 0, 0, p, h => by omega
 | n + 1, k, p, h => by
  obtain ⟨k', rfl⟩ : ∃ k', k = k' + 7 := ⟨k - 7, by omega⟩
  rw [IJ, N1 (II n), Iy n k' (p + 13) (by omega)]; rfl
theorem S8 {n : Nat} (h : n < 1000) : uS (uc n GS) = .ok (nI n 0 ++ [⟨0, [], 0, 13 * n⟩]) := by
 have hl : (uc n GS).length = 13 * n := by rw [pY]; show n * 13 = _; omega
 have hs : eU false (uc n GS) = 0 := by
  rcases II n with e | ⟨r, e⟩ <;> rw [e] <;> rfl
 unfold uS;rw [hl, if_neg (by omega), hs, List.drop_zero, Iy n _ 0 (by omega)]; rfl
theorem oS : ∀ (n p : Nat), (nI n p).length = 7 * n
 | 0, p => rfl
 | n + 1, p => by
  rw [nI, ja, oS n]
  show 7 + 7 * n = _; omega
theorem DM : ∀ (n p i j : Nat), i < n -> j < 7 -> (nI n p)[7 * i + j]? = (FX (p + 13 * i))[j]?
 | 0, p, i, j, h, _ => by omega
 | n + 1, p, 0, j, h, hj => by
  rw [nI, A9 (by show _ < 7; omega)]
  simp
 | n + 1, p, i + 1, j, h, hj => by
  have hl : (FX p).length = 7 := rfl
  rw [nI, BO (by rw [hl]; omega), hl, show 7 * (i + 1) + j - 7 = 7 * i + j by omega, DM n (p + 13) i j (by omega) hj, show p + 13 + 13 * i = p + 13 * (i + 1) by omega]
theorem ol {l : List Tok} {p : Nat} {t : Tok} (h : l[p]? = some t) (d : Int) (tr : List Nd) (hi : List Nat) (fe fp : Int) : RS.now ⟨p, d, tr, hi, fe, fp⟩ l = t := by
 have := (rc.1 h).1
 unfold RS.now;rw [show min p (l.length - 1) = p by omega, List.getD_eq_getElem?_getD, h]; rfl
theorem O0 {l : List Tok} {k p q : Nat} {tr : List Nd} {hi : List Nat} {fp : Int} (h : ∀ j, j < 7 -> l[p + j]? = (FX q)[j]?) (hh : hi.length = tr.length) (hb : ∀ x ∈ hi, x <= 2) :
  lW l (k + 3) .func ⟨p, 0, tr, hi, 0, fp⟩ = some (⟨p + 7, 0, tr ++ [nd 23 [] 0 [] ((q + 11 : Nat) : Int), nd 25 [(tr.length : Int)] 1 [102] ((q + 3 : Nat) : Int)], hi ++ [1, 2], 0, fp⟩, [(tr.length : Int) + 1]) := by
 have n0 := ol (h 0 (by omega))
 have n1 := ol (h 1 (by omega))
 have n2 := ol (h 2 (by omega))
 have n3 := ol (h 3 (by omega))
 have n4 := ol (h 4 (by omega))
 have n5 := ol (h 5 (by omega))
 have n6 := ol (h 6 (by omega))
 rw [Nat.add_zero] at n0;have hg : ((hi ++ [1])[tr.length]?).getD 0 = 1 := by
  rw [<- hh, BO (fh _), Nat.sub_self]; rfl
 have bt : ((tr.length : Int) < (hi.length : Int) + 1) = True := by simp; omega
 simp [lW, RS.want, RS.is, RS.name, RS.nV, RS.cP, RS.next, kE, RS.open, RS.close, uU, RS.put, RS.nh, RS.gO, n0, n1, n2, n3, n4, n5, n6, lL, Jv, nd, Ap, Fp, hg, bt]
theorem Ro {H : List Nat} {b : Nat} (h : ∀ x ∈ H, x <= b) (ks : List Int) : lL H ks <= b + 1 := by
 have step : ∀ (ks : List Int) (a : Nat), a <= b + 1 -> ks.foldl (Jv H) a <= b + 1 := by
  intro ks
  induction ks with
  | nil => exact fun a h => h
  | cons x ks ih =>
   intro a ha
   refine ih _ ?_
   unfold Jv
   split
   ·have : H.getD x.toNat 0 <= b := by
     rw [List.getD_eq_getElem?_getD]
     cases hx : H[x.toNat]? with
     | none => exact lu _
     | some y => exact h y (List.mem_of_getElem? hx)
    omega
   ·exact ha
 exact step ks 1 (by omega)
theorem TE {n : Nat} {l : List Tok} (hl : l = nI n 0 ++ [⟨0, [], 0, 13 * n⟩]) : ∀ (m i k : Nat) (out : List Int) (tr : List Nd) (hi : List Nat) (fp : Int), m + i = n -> i <= 200 -> m + 4 <= k -> out.length = i -> hi.length = tr.length -> (∀ x ∈ hi, x <= 2) ->
  ∃ s r, lW l k (.qX out) ⟨7 * i, 0, tr, hi, 0, fp⟩ = some (s, r) /\ (if n <= 200 then s.fe = 0 /\ ∀ x ∈ s.high, x <= 2 else s.fe = 3) := by
 intro m
 induction m with
 | zero =>
  intro i k out tr hi fp hm h2 hk ho hh hb
  obtain ⟨k, rfl⟩ : ∃ k', k = k' + 1 := ⟨k - 1, by omega⟩
  have hn : RS.now ⟨7 * i, 0, tr, hi, 0, fp⟩ l = ⟨0, [], 0, 13 * n⟩ := ol (by
   rw [hl, BO (by rw [oS]; omega), oS, show 7 * i - 7 * n = 0 by omega]; rfl) _ _ _ _ _
  refine ⟨_, _, by simp only [lW, hn]; exact if_neg (by simp), ?_⟩
  rw [if_pos (show n <= 200 by omega)];exact ⟨rfl, hb⟩
 | succ m ih =>
  intro i k out tr hi fp hm h2 hk ho hh hb
  obtain ⟨k, rfl⟩ : ∃ k', k = k' + 4 := ⟨k - 4, by omega⟩
  have hj : ∀ j, j < 7 -> l[7 * i + j]? = (FX (13 * i))[j]? := fun j hj => by
   rw [hl, A9 (by rw [oS]; omega), DM n 0 i j (by omega) hj, Nat.zero_add]
  have hn : ∀ d tr hi fe fp, RS.now ⟨7 * i, d, tr, hi, fe, fp⟩ l = ⟨3, [102, 110], 0, 13 * i⟩ := ol (hj 0 (by omega))
  by_cases OY : i = 200
  ·subst OY
   simp only [if_neg (show ¬ n <= 200 by omega)];refine ⟨_, _, by simp [lW, RS.want, RS.is, RS.name, RS.nV, RS.cP, RS.fail, kE, uU, RS.put, RS.nh, RS.gO, hn, nd, Ap, ho]; exact ⟨rfl, rfl⟩, ?_⟩
   rfl
  ·have e : lW l (k + 4) (.qX out) ⟨7 * i, 0, tr, hi, 0, fp⟩ = lW l (k + 3) (.qX (out ++ [(tr.length : Int) + 1])) ⟨7 * (i + 1), 0, tr ++ [nd 23 [] 0 [] ((13 * i + 11 : Nat) : Int), nd 25 [(tr.length : Int)] 1 [102] ((13 * i + 3 : Nat) : Int)], hi ++ [1, 2], 0, fp⟩ := by
    have iQ : ¬ (out.length = 200 /\ RS.is ⟨7 * i, 0, tr, hi, 0, fp⟩ l Ap) := fun q => OY (by omega)
    rw [lW, if_pos ⟨rfl, by rw [hn]; simp⟩]
    simp only [if_neg iQ];rw [O0 (q := 13 * i) hj hh hb]
    rfl
   rw [e];refine ih (i + 1) _ _ _ _ _ (by omega) (by omega) (by omega) (by rw [ja, ho]; rfl) (by rw [ja, ja, hh]; rfl) ?_
   intro x hx
   rcases uy.1 hx with hx | hx
   ·exact hb x hx
   ·simp at hx; omega
theorem Ql {n : Nat} (h1 : n <= 201) : ∃ l, uS (uc n GS) = .ok l /\ (oY l).fe = if n <= 200 then 0 else 3 := by
 refine ⟨_, S8 (by omega), ?_⟩
 obtain ⟨s, r, e, hs⟩ := TE (n := n) rfl n 0 (8 * (nI n 0 ++ [(⟨0, [], 0, 13 * n⟩ : Tok)]).length + 5) [] [] [] 0 rfl (lu _) (by rw [ja, oS]; simp; omega) rfl rfl (by simp)
 have e' : lW (nI n 0 ++ [⟨0, [], 0, 13 * n⟩]) (8 * (nI n 0 ++ [(⟨0, [], 0, 13 * n⟩ : Tok)]).length + 5) (.qX []) .start = some (s, r) := e
 unfold oY;rw [e']
 show (s.put (nd 26 r 0 [] 0)).fe = _
 split at hs
 ·rename_i h
  rw [if_pos h];have hp : s.nh (nd 26 r 0 [] 0) = s := by
   unfold RS.nh;have := Ro hs.2 r
   rw [if_neg (by show ¬ 200 < lL s.high r; omega)]
  unfold RS.put;rw [hp, if_pos hs.1]; exact hs.1
 ·rename_i h
  rw [if_neg h, KR (by omega)];exact hs
end
section
def RL (s : bZ) : Int := match uS s with
 | .ok l => (oY l).fe
 | .bad _ _ => 99
def Sg : bZ := [105, 102, 32, 97, 32, 123]
def Kr : bZ := [102, 110, 32, 102, 40]
def NZ : bZ := [41, 32, 105, 110, 116, 32, 123]
def sW : Nat -> bZ
 | 0 => []
 | n + 1 => (if n = 0 then [] else sW n ++ [44]) ++ [97, 32, 105, 110, 116]
def ml (k n : Nat) : bZ := if k = 0 then (Kr ++ NZ ++ uc n Sg) ++ (125 :: uc n [125]) else if k = 1 then ((Kr ++ sW n) ++ NZ) ++ [125] else uc n GS ++ []
theorem VZ : (RL (ml 1 6), RL (ml 1 7), RL (ml 1 8), RL (ml 1 9)) = (0, 0, 0, 3) := by decide +kernel
end
section
theorem Pc : RL (ml 0 96) = 0 := by decide +kernel
end
section
theorem Pb : RL (ml 0 97) = 0 := by decide +kernel
end
section
theorem Pa : RL (ml 0 98) = 0 := by decide +kernel
end
section
theorem O9 : RL (ml 0 99) = 4 := by decide +kernel
end
section
def EQ (l : List Nd) (a : Int) : Nat := (gM l).count a
theorem JX {a : Int} : EQ [] a = 0 := rfl
theorem z0 {x y : List Nd} {a : Int} : EQ (x ++ y) a = EQ x a + EQ y a := by simp [EQ, gM]
theorem JW {d : Nd} {a : Int} : EQ [d] a = d.kids.count a := by simp [EQ, gM]
def Jo (lo hi : Nat) (a : Int) : Nat := if (lo : Int) <= a /\ a < (hi : Int) then 1 else 0
theorem rH {a b c : Nat} {x : Int} (h : a <= b) (h' : b <= c) : Jo a c x = Jo a b x + Jo b c x := by
 unfold Jo;by_cases h1 : (a : Int) <= x /\ x < (b : Int) <;> by_cases h2 : (b : Int) <= x /\ x < (c : Int) <;> by_cases h3 : (a : Int) <= x /\ x < (c : Int) <;> first | (rw [if_pos h1, if_pos h2]; exfalso; omega) | (rw [if_pos h1, if_neg h2, if_pos h3]) | (rw [if_neg h1, if_pos h2, if_pos h3]) | (rw [if_neg h1, if_neg h2, if_neg h3]) | (exfalso; omega)
theorem Jn {a : Nat} {x : Int} : Jo a a x = 0 := by unfold Jo; rw [if_neg (by omega)]
theorem Hv {a : Nat} {x : Int} : Jo a (a + 1) x = [(a : Int)].count x := by
 unfold Jo;by_cases h : x = (a : Int)
 ·subst h; rw [if_pos (by omega)]; simp
 ·rw [if_neg (by omega), List.count_eq_zero_of_not_mem (by simpa using h)]
structure Se (l : List Tok) (d : Nd) : Prop where
 own : BA d
 kind : kc d.kind
 pos : ∃ t ∈ l, d.pos = (t.pos : Int)
 kn : if d.kind = 5 \/ d.kind = 8 then d.kids.length = 2 else if d.kind = 6 \/ d.kind = 7 \/ d.kind = 9 \/ d.kind = 10 then d.kids.length = 1 else if d.kind = 11 then d.kids.length <= 8 else d.kids.length = 0
structure adk (l : List Tok) (st : RS) : Prop where
 lt : lJ st.tree
 hl : st.high.length = st.tree.length
 hh : ∀ i, i < st.tree.length -> st.high[i]? = some (gH st.tree i)
structure TI (l : List Tok) (st : RS) : Prop where
 t : st.fe = 0 -> adk l st
 f : st.fe ≠ 0 -> ∃ t ∈ l, st.fp = (t.pos : Int)
structure iw (l : List Tok) (ins : List Int) (st s1 : RS) (r : List Int) : Prop where
 inv : TI l s1
 ok : s1.fe = 0 -> st.fe = 0 /\ ∃ new, s1.tree = st.tree ++ new /\ (∀ d ∈ new, Se l d) /\ ∀ a, EQ new a + r.count a = ins.count a + Jo st.tree.length s1.tree.length a
section
variable {l : List Tok} {st s1 s2 : RS}
theorem lA (h : 0 < l.length) : st.now l ∈ l := by
 have : min st.pos (l.length - 1) < l.length := by omega
 unfold RS.now;rw [List.getD_eq_getElem?_getD, mZ this];exact Fm this
theorem TI.same (h : TI l st) (h1 : s1.tree = st.tree) (h2 : s1.high = st.high) (h3 : s1.fe = st.fe) (h4 : s1.fp = st.fp) : TI l s1 where
 t q := by have := h.t (h3 ▸ q); exact ⟨by rw [h1]; exact this.lt, by rw [h1, h2]; exact this.hl, by rw [h1, h2]; exact this.hh⟩
 f q := by rw [h4]; exact h.f (h3 ▸ q)
theorem TI.fail (h : TI l st) {e : Int} {p : Int} (he : e ≠ 0) (hp : ∃ t ∈ l, p = (t.pos : Int)) : TI l (st.fail e p) := by
 unfold RS.fail
 split
 ·exact ⟨fun q => absurd q he, fun _ => hp⟩
 ·exact h
theorem TI.next (h : TI l st) : TI l st.next := h.same rfl rfl rfl rfl
theorem TI.close (h : TI l st) : TI l st.close := h.same rfl rfl rfl rfl
theorem TI.open (h : TI l st) {p : Int} (hp : ∃ t ∈ l, p = (t.pos : Int)) : TI l (st.open p) := by
 unfold RS.open
 split
 ·exact TI.fail (e := 4) (h.same (s1 := { st with deep := st.deep + 1 }) rfl rfl rfl rfl) (by decide) hp
 ·exact h.same rfl rfl rfl rfl
theorem TI.want (hl : 0 < l.length) (h : TI l st) {s : bZ} : TI l (st.want l s) := by
 unfold RS.want
 split
 ·exact h.next
 ·exact h.fail (by decide) ⟨_, lA hl, rfl⟩
theorem jA {s : bZ} (h : (st.want l s).fe = 0) : st.fe = 0 /\ (st.want l s).tree = st.tree := by
 unfold RS.want at h ⊢
 split at h
 ·rename_i q; rw [if_pos q]; exact ⟨h, rfl⟩
 ·exact absurd h (eg (by decide))
theorem Cm {p : Int} (h : (st.open p).fe = 0) : st.fe = 0 /\ (st.open p).tree = st.tree := by
 unfold RS.open at h ⊢
 split at h
 ·exact absurd h (eg (by decide))
 ·rename_i q; rw [if_neg q]; exact ⟨h, rfl⟩
theorem Gt {x y : List Nd} (hk : lJ (x ++ y)) : ∀ i, i < x.length -> gH (x ++ y) i = gH x i := by
 intro i
 induction i using Nat.strongRecOn with
 | _ i ih =>
  intro hi
  have Wz : lJ x := fun j d hj => hk j d (by rw [A9 (rc.1 hj).1]; exact hj)
  have hd : x[i]? = some x[i] := mZ hi
  have FG : (x ++ y)[i]? = some x[i] := by rw [A9 hi]; exact hd
  rw [uX hk FG, uX Wz hd];have bt := Wz i _ hd
  have : ∀ (ks : List Int) (a : Nat), (∀ z ∈ ks, 0 <= z /\ z < (i : Int)) -> ks.foldl (fun h Y6 => max h (1 + gH (x ++ y) Y6.toNat)) a = ks.foldl (fun h Y6 => max h (1 + gH x Y6.toNat)) a := by
   intro ks
   induction ks with
   | nil => intro _ _; rfl
   | cons z ks Q3 =>
    intro a hz
    have hz0 := hz z (by simp)
    rw [List.foldl_cons, List.foldl_cons, ih z.toNat (by omega) (by omega)];exact Q3 _ fun w hw => hz w (by simp [hw])
  exact this _ _ bt
theorem Jg {x : List Nd} {d : Nd} (hk : lJ x) (hd : ∀ z ∈ d.kids, 0 <= z /\ z < (x.length : Int)) : lJ (x ++ [d]) := by
 intro i e hi
 by_cases h : i < x.length
 ·rw [A9 h] at hi; exact hk i e hi
 ·rw [BO (by omega)] at hi
  have : i = x.length := by
   have := (rc.1 hi).1
   simp only [List.length_singleton] at this; omega
  subst this;simp only [Nat.sub_self, List.getElem?_cons_zero, bc] at hi;subst hi; exact hd
theorem Mq (h : TI l st) {d : Nd} (hp : ∃ t ∈ l, d.pos = (t.pos : Int)) (hd : st.fe = 0 -> ∀ z ∈ d.kids, 0 <= z /\ z < (st.tree.length : Int)) : TI l (st.put d) /\ ((st.put d).fe = 0 -> st.fe = 0 /\ (st.put d).tree = st.tree ++ [d] /\ st.gO d = (st.tree.length : Int)) := by
 unfold RS.put RS.gO RS.nh;by_cases h2 : 200 < lL st.high d.kids
 ·rw [if_pos h2, if_neg (eg (by decide))]
  exact ⟨h.fail (by decide) hp, fun q => absurd q (eg (by decide))⟩
 ·rw [if_neg h2]
  by_cases im : st.fe = 0
  ·rw [if_pos im, if_pos im]
   refine ⟨⟨fun _ => ?_, fun q => absurd im q⟩, fun _ => ⟨im, rfl, rfl⟩⟩
   have hk := hd im
   have ht := h.t im
   have Fk := Jg ht.lt hk
   refine ⟨Fk, ?_, ?_⟩
   ·show (st.high ++ [_]).length = (st.tree ++ [d]).length
    rw [ja, ja, ht.hl]; rfl
   ·intro i hi
    show (st.high ++ [_])[i]? = some (gH (st.tree ++ [d]) i)
    have hi : i < (st.tree ++ [d]).length := hi
    rw [ja, List.length_singleton] at hi;by_cases h' : i < st.tree.length
    ·rw [A9 (by rw [ht.hl]; exact h'), ht.hh i h', Gt Fk i h']
    ·have : i = st.tree.length := by omega
     subst this;rw [BO (by rw [ht.hl]; exact fh _), ht.hl, Nat.sub_self, List.getElem?_cons_zero, uX Fk (d := d) (by rw [BO (fh _), Nat.sub_self]; rfl)]
     congr 1
     unfold lL;have : ∀ (ks : List Int) (a : Nat), (∀ z ∈ ks, 0 <= z /\ z < (st.tree.length : Int)) -> ks.foldl (Jv st.high) a = ks.foldl (fun h x => max h (1 + gH (st.tree ++ [d]) x.toNat)) a := by
      intro ks
      induction ks with
      | nil => intro _ _; rfl
      | cons z ks Q3 =>
       intro a hz
       have hz0 := hz z (by simp)
       rw [List.foldl_cons, List.foldl_cons, Q3 _ fun w hw => hz w (by simp [hw])]
       congr 1
       unfold Jv;have e1 := ht.hh z.toNat (by omega)
       rw [if_pos (by rw [ht.hl]; omega), List.getD_eq_getElem?_getD, e1, Option.getD_some, Gt Fk _ (by omega), Nat.add_comm]
     exact this _ _ hk
  ·rw [if_neg im]
   exact ⟨h, fun q => absurd q im⟩
end
end
section
def gL.ins : gL -> List Int
 | .kV _ _ left => [left] | .mI left => [left] | .lU out => out | _ => []
def gL.len (s1 : RS) (r : List Int) : gL -> Prop
 | .args => s1.fe = 0 -> r.length <= 8
 | .lU _ => s1.fe = 0 -> r.length <= 8
 | _ => r.length = 1
def wZ (st : RS) (xs : List Int) : Prop := st.fe = 0 -> ∀ x ∈ xs, 0 <= x /\ x < (st.tree.length : Int)
section
variable {l : List Tok} {st st' s1 KM s2 : RS} {ins mid r r' : List Int}
theorem iw.val (h : iw l ins st s1 r) (hi : wZ st ins) : wZ s1 r := by
 intro q x hx
 obtain ⟨h0, new, hn, _, hc⟩ := h.ok q
 have h1 := hc x
 have h2 : 0 < r.count x := List.count_pos_iff.2 hx
 have hlen : s1.tree.length = st.tree.length + new.length := by rw [hn, ja]
 by_cases h3 : x ∈ ins
 ·have := hi h0 x h3; omega
 ·rw [List.count_eq_zero_of_not_mem h3] at h1
  unfold Jo at h1
  split at h1
  ·omega
  ·omega
theorem iw.refl (h : TI l st) : iw l ins st st ins := ⟨h, fun q => ⟨q, [], by simp, by simp, fun a => by rw [JX, Jn]; omega⟩⟩
theorem iw.bad (h : TI l s1) (h0 : s1.fe ≠ 0) : iw l ins st s1 r := ⟨h, fun q => absurd q h0⟩
theorem iw.trans (h : iw l ins st s1 mid) (h' : iw l mid s1 s2 r) : iw l ins st s2 r := by
 refine ⟨h'.inv, fun q => ?_⟩
 obtain ⟨h1, n2, e2, d2, c2⟩ := h'.ok q
 obtain ⟨h0, n1, e1, d1, c1⟩ := h.ok h1
 refine ⟨h0, n1 ++ n2, by rw [e2, e1, List.append_assoc], fun d hd => (uy.1 hd).elim (d1 d) (d2 d), fun a => ?_⟩
 have := c1 a; have := c2 a
 have l1 : s1.tree.length = st.tree.length + n1.length := by rw [e1, ja]
 have l2 : s2.tree.length = s1.tree.length + n2.length := by rw [e2, ja]
 rw [z0, rH (b := s1.tree.length) (by omega) (by omega)];omega
theorem iw.AZ (h : iw l ins st s1 r) (hi : TI l KM) (h0 : st.fe = 0 -> st'.fe = 0 /\ st'.tree = st.tree) (h2 : KM.fe = 0 -> s1.fe = 0 /\ KM.tree = s1.tree /\ r' = r) : iw l ins st' KM r' := by
 refine ⟨hi, fun q => ?_⟩
 obtain ⟨q1, q2, rfl⟩ := h2 q
 obtain ⟨p0, n1, e1, d1, c1⟩ := h.ok q1
 obtain ⟨p1, p2⟩ := h0 p0
 exact ⟨p1, n1, by rw [q2, p2, e1], d1, fun a => by rw [q2, p2]; exact c1 a⟩
theorem iw.put {extra : List Int} {d : Nd} (h : iw l ins st s1 r) (hi : wZ st ins) (hp : ∃ t ∈ l, d.pos = (t.pos : Int)) (hd : s1.fe = 0 -> Se l d) (hk : ∀ a, d.kids.count a = extra.count a + r.count a) (hx : wZ st extra) : iw l (extra ++ ins) st (s1.put d) [s1.gO d] := by
 have hv := h.val hi
 obtain ⟨g1, g2⟩ := Mq (st := s1) h.inv hp fun q => fun z hz => by
  have h2 : 0 < d.kids.count z := List.count_pos_iff.2 hz
  rw [hk z] at h2;obtain ⟨h0, new, hn, _, _⟩ := h.ok q
  have hlen : s1.tree.length = st.tree.length + new.length := by rw [hn, ja]
  by_cases h3 : z ∈ extra
  ·have := hx h0 z h3; omega
  ·rw [List.count_eq_zero_of_not_mem h3] at h2
   exact hv q z (List.count_pos_iff.1 (by omega))
 refine ⟨g1, fun q => ?_⟩
 obtain ⟨p0, p1, p2⟩ := g2 q
 obtain ⟨h0, new, hn, dn, hc⟩ := h.ok p0
 have hlen : s1.tree.length = st.tree.length + new.length := by rw [hn, ja]
 refine ⟨h0, new ++ [d], by rw [p1, hn, List.append_assoc], fun e he => (uy.1 he).elim (dn e) (fun w => by rw [Ar.1 w]; exact hd p0), fun a => ?_⟩
 rw [z0, JW, hk, p2, List.count_append, p1, ja, List.length_singleton, rH (b := s1.tree.length) (by omega) (by omega), Hv];have := hc a
 omega
end
theorem xn {l : List Tok} {kind n : Int} {kids : List Int} {s : bZ} {t : Tok} (ht : t ∈ l) (h1 : kc kind) (h2 : kind ∈ sX ↔ s ≠ []) (h3 : s ≠ [] -> nj s) (h4 : if kind = 1 then 0 <= n else if kind = 2 then n = 0 \/ n = 1 else if kind = 5 then 1 <= n /\ n <= 16 else if kind = 24 \/ kind = 25 then 1 <= n /\ n <= 3 else n = 0) (h5 : if kind = 5 \/ kind = 8 then kids.length = 2 else if kind = 6 \/ kind = 7 \/ kind = 9 \/ kind = 10 then kids.length = 1 else if kind = 11 then kids.length <= 8 else kids.length = 0) : Se l (nd kind kids n s (t.pos : Int)) := by
 refine ⟨⟨?_, fun q => q.2 (h3 q.1), h4⟩, h1, ⟨t, ht, rfl⟩, h5⟩
 rintro ((q | q) | q)
 ·have := h1.1; have := h1.2; simp only [nd] at q; omega
 ·simp only [nd] at q; omega
 ·exact q h2
theorem Qo {s : bZ} (h : (mw s).2 ≠ 0) : 1 <= (mw s).2 /\ (mw s).2 <= 16 := by
 have := Mv s; omega
end
section
theorem bind_some {α β : Type} {x : Option α} {f : α -> Option β} {b : β} (h : x.bind f = some b) : ∃ a, x = some a /\ f a = some b := by
 cases x with
 | none => cases h
 | some a => exact ⟨a, rfl, h⟩
theorem je {r : List Int} (h : r.length = 1) : ∃ x, r = [x] := by
 match r, h with
 | [x], _ => exact ⟨x, rfl⟩
theorem wZ.nil {st : RS} : wZ st [] := fun _ _ h => by cases h
theorem Rz {l : List Tok} (hl : 0 < l.length) (hg : ∀ t ∈ l, t.kind = 1 -> t.text ≠ [] /\ nj t.text) : ∀ (k : Nat) (c : gL) (st s1 : RS) (r : List Int), jk l k c st = some (s1, r) -> TI l st -> wZ st c.ins -> c.may -> iw l c.ins st s1 r /\ c.len s1 r := by
 intro k
 induction k with
 | zero => intro c st s1 r h; cases h
 | succ k ih =>
  intro c st s1 r h hT hI hm
  have pH := lA (st := st) hl
  have dO : ∃ t ∈ l, ((st.now l).pos : Int) = (t.pos : Int) := ⟨_, pH, rfl⟩
  cases c with
  | expr =>
   simp only [jk] at h;obtain ⟨⟨s2, r2⟩, h1, h2⟩ := bind_some h
   simp only [bc, eM] at h2;obtain ⟨rfl, rfl⟩ := h2
   obtain ⟨p, n⟩ := ih _ _ _ _ h1 hT wZ.nil trivial
   refine ⟨p.AZ p.inv (fun q => ⟨q, rfl⟩) fun q => ⟨q, rfl, if_pos q⟩, ?_⟩
   show List.length _ = 1
   split
   ·exact n
   ·rfl
  | lR least =>
   simp only [jk] at h;obtain ⟨⟨s2, r2⟩, h1, h2⟩ := bind_some h
   obtain ⟨p, n⟩ := ih _ _ _ _ h1 hT wZ.nil trivial
   obtain ⟨x, rfl⟩ := je n
   simp only [List.headD_cons] at h2;obtain ⟨p2, n2⟩ := ih _ _ _ _ h2 p.inv (p.val wZ.nil) trivial
   exact ⟨p.trans p2, n2⟩
  | kV least nO left =>
   simp only [jk] at h
   split at h
   ·rename_i hc
    obtain ⟨⟨s2, r2⟩, h1, h2⟩ := bind_some h
    obtain ⟨p, n⟩ := ih _ _ _ _ h1 hT.next wZ.nil trivial
    obtain ⟨x, rfl⟩ := je n
    simp only [List.headD_cons] at h2;have p1 : iw l [] st s2 [x] := p.AZ p.inv (fun q => ⟨q, rfl⟩) fun q => ⟨q, rfl, rfl⟩
    have o := Qo (s := (st.now l).text) (by have := hc.2; omega)
    have p2 := p1.put (extra := [left]) (d := nd 5 [left, x] (mw (st.now l).text).2 [] (st.now l).pos) wZ.nil dO (fun _ => xn pH ⟨by decide, by decide⟩ (by decide) (fun q => absurd rfl q) o rfl) (fun a => by simp only [nd, List.count_cons, List.count_nil]; omega) hI
    rw [List.append_nil] at p2;obtain ⟨p3, n3⟩ := ih _ _ _ _ h2 p2.inv (p2.val hI) trivial
    exact ⟨p2.trans p3, n3⟩
   ·simp only [bc, eM] at h
    obtain ⟨rfl, rfl⟩ := h
    exact ⟨iw.refl hT, rfl⟩
  | front =>
   simp only [jk] at h;have one : ∀ (kind : Int), kind = 6 \/ kind = 7 -> (if (st.next.open (st.now l).pos).fe = 0 then (jk l k .front (st.next.open (st.now l).pos)).bind fun (s1, r) => some (s1.close.put (nd kind r 0 [] (st.now l).pos), [s1.close.gO (nd kind r 0 [] (st.now l).pos)]) else some (st.next.open (st.now l).pos, [-1])) = some (s1, r) -> iw l [] st s1 r /\ r.length = 1 := by
    intro kind Rn h
    split at h
    ·rename_i hf
     obtain ⟨⟨s2, r2⟩, h1, h2⟩ := bind_some h
     simp only [bc, eM] at h2;obtain ⟨rfl, rfl⟩ := h2
     obtain ⟨p, n⟩ := ih _ _ _ _ h1 (hT.next.open dO) wZ.nil trivial
     obtain ⟨x, rfl⟩ := je n
     have p1 : iw l [] st s2.close [x] := p.AZ p.inv.close (fun q => by obtain ⟨a, b⟩ := Cm q; exact ⟨a, b.symm⟩) fun q => ⟨q, rfl, rfl⟩
     have p2 := p1.put (extra := []) (d := nd kind [x] 0 [] (st.now l).pos) wZ.nil dO (fun _ => by
      rcases Rn with rfl | rfl <;> exact xn pH ⟨by decide, by decide⟩ (by decide) (fun q => absurd rfl q) rfl rfl) (fun a => by simp only [nd, List.count_nil]; omega) wZ.nil
     exact ⟨p2, rfl⟩
    ·rename_i hf
     simp only [bc, eM] at h;obtain ⟨rfl, rfl⟩ := h
     exact ⟨iw.bad (hT.next.open dO) hf, rfl⟩
   split at h
   ·exact one 6 (.inl rfl) h
   ·split at h
    ·exact one 7 (.inr rfl) h
    ·obtain ⟨⟨s2, r2⟩, h1, h2⟩ := bind_some h
     obtain ⟨p, n⟩ := ih _ _ _ _ h1 hT wZ.nil trivial
     obtain ⟨x, rfl⟩ := je n
     simp only [List.headD_cons] at h2;obtain ⟨p2, n2⟩ := ih _ _ _ _ h2 p.inv (p.val wZ.nil) trivial
     exact ⟨p.trans p2, n2⟩
  | atom =>
   simp only [jk] at h;have p0 : iw l [] st st.next [] := (iw.refl hT).AZ hT.next (fun q => ⟨q, rfl⟩) fun q => ⟨q, rfl, rfl⟩
   have leaf : ∀ (kind n : Int) (s : bZ), Se l (nd kind [] n s (st.now l).pos) -> some (st.next.put (nd kind [] n s (st.now l).pos), [st.next.gO (nd kind [] n s (st.now l).pos)]) = some (s1, r) -> iw l [] st s1 r /\ r.length = 1 := by
    intro kind n s hn h
    simp only [bc, eM] at h;obtain ⟨rfl, rfl⟩ := h
    exact ⟨p0.put (extra := []) wZ.nil dO (fun _ => hn) (fun a => by simp only [nd, List.count_nil]) wZ.nil, rfl⟩
   have Xe : ∀ kind : Int, kind = 9 \/ kind = 10 -> ((jk l k (.inner [40] [41]) st.next).bind fun (s1, r) => some (s1.put (nd kind r 0 [] (st.now l).pos), [s1.gO (nd kind r 0 [] (st.now l).pos)])) = some (s1, r) -> iw l [] st s1 r /\ r.length = 1 := by
    intro kind Rn h
    obtain ⟨⟨s2, r2⟩, h1, h2⟩ := bind_some h
    simp only [bc, eM] at h2;obtain ⟨rfl, rfl⟩ := h2
    obtain ⟨p, n⟩ := ih _ _ _ _ h1 hT.next wZ.nil trivial
    obtain ⟨x, rfl⟩ := je n
    have p1 : iw l [] st s2 [x] := p.AZ p.inv (fun q => ⟨q, rfl⟩) fun q => ⟨q, rfl, rfl⟩
    exact ⟨p1.put (extra := []) (d := nd kind [x] 0 [] (st.now l).pos) wZ.nil dO (fun _ => by
     rcases Rn with rfl | rfl <;> exact xn pH ⟨by decide, by decide⟩ (by decide) (fun q => absurd rfl q) rfl rfl) (fun a => by simp only [nd, List.count_nil]; omega) wZ.nil, rfl⟩
   split at h
   ·rename_i hf
    simp only [bc, eM] at h;obtain ⟨rfl, rfl⟩ := h
    exact ⟨iw.bad hT hf, rfl⟩
   ·split at h
    ·obtain ⟨p, n⟩ := ih _ _ _ _ h hT wZ.nil trivial
     exact ⟨p, n⟩
    ·split at h
     ·exact leaf 1 _ [] (xn pH ⟨by decide, by decide⟩ (by decide) (fun q => absurd rfl q) (Int.natCast_nonneg _) rfl) h
     ·split at h
      ·rename_i Kt
       obtain ⟨t1, t2⟩ := hg _ pH Kt
       split at h
       ·obtain ⟨⟨s2, r2⟩, h1, h2⟩ := bind_some h
        simp only [bc, eM] at h2;obtain ⟨rfl, rfl⟩ := h2
        obtain ⟨p, n⟩ := ih _ _ _ _ h1 hT.next wZ.nil trivial
        have p1 : iw l [] st s2 r2 := p.AZ p.inv (fun q => ⟨q, rfl⟩) fun q => ⟨q, rfl, rfl⟩
        exact ⟨p1.put (extra := []) (d := nd 11 r2 0 (st.now l).text (st.now l).pos) wZ.nil dO (fun q => xn pH ⟨by decide, by decide⟩ ⟨fun _ => t1, fun _ => by decide⟩ (fun _ => t2) rfl (n q)) (fun a => by simp only [nd, List.count_nil]; omega) wZ.nil, rfl⟩
       ·exact leaf 4 0 _ (xn pH ⟨by decide, by decide⟩ ⟨fun _ => t1, fun _ => by decide⟩ (fun _ => t2) rfl rfl) h
      ·split at h
       ·exact leaf 2 1 [] (xn pH ⟨by decide, by decide⟩ (by decide) (fun q => absurd rfl q) (.inr rfl) rfl) h
       ·split at h
        ·exact leaf 2 0 [] (xn pH ⟨by decide, by decide⟩ (by decide) (fun q => absurd rfl q) (.inl rfl) rfl) h
        ·split at h
         ·exact leaf 3 0 [] (xn pH ⟨by decide, by decide⟩ (by decide) (fun q => absurd rfl q) rfl rfl) h
         ·split at h
          ·exact Xe 9 (.inl rfl) h
          ·split at h
           ·exact Xe 10 (.inr rfl) h
           ·simp only [bc, eM] at h
            obtain ⟨rfl, rfl⟩ := h
            exact ⟨iw.bad (hT.fail (by decide) dO) (eg (by decide)), rfl⟩
  | mI left =>
   simp only [jk] at h
   split at h
   ·obtain ⟨⟨s2, r2⟩, h1, h2⟩ := bind_some h
    obtain ⟨p, n⟩ := ih _ _ _ _ h1 hT wZ.nil trivial
    obtain ⟨x, rfl⟩ := je n
    have p2 := iw.put (extra := [left]) (d := nd 8 [left, x] 0 [] (st.now l).pos) p wZ.nil dO (fun _ => xn pH ⟨by decide, by decide⟩ (by decide) (fun q => absurd rfl q) rfl rfl) (fun a => by simp only [nd, List.count_cons, List.count_nil]; omega) hI
    have p2 : iw l [left] st _ _ := p2
    obtain ⟨p3, n3⟩ := ih _ _ _ _ h2 p2.inv (p2.val hI) trivial
    exact ⟨p2.trans p3, n3⟩
   ·simp only [bc, eM] at h
    obtain ⟨rfl, rfl⟩ := h
    exact ⟨iw.refl hT, rfl⟩
  | inner a z =>
   simp only [jk] at h
   split at h
   ·split at h
    ·obtain ⟨⟨s2, r2⟩, h1, h2⟩ := bind_some h
     simp only [bc, eM] at h2;obtain ⟨rfl, rfl⟩ := h2
     obtain ⟨p, n⟩ := ih _ _ _ _ h1 (hT.next.open dO) wZ.nil trivial
     refine ⟨p.AZ (p.inv.want hl).close (fun q => by obtain ⟨a, b⟩ := Cm q; exact ⟨a, b.symm⟩) fun q => ?_, ?_⟩
     ·obtain ⟨a1, a2⟩ := jA (s := z) (st := s2) (l := l) q
      exact ⟨a1, a2, if_pos q⟩
     ·show List.length _ = 1
      split
      ·exact n
      ·rfl
    ·rename_i hf
     simp only [bc, eM] at h;obtain ⟨rfl, rfl⟩ := h
     exact ⟨iw.bad (hT.next.open dO) hf, rfl⟩
   ·simp only [bc, eM] at h
    obtain ⟨rfl, rfl⟩ := h
    exact ⟨iw.bad (hT.fail (by decide) dO) (eg (by decide)), rfl⟩
  | args =>
   simp only [jk] at h
   split at h
   ·split at h
    ·obtain ⟨⟨s2, r2⟩, h1, h2⟩ := bind_some h
     simp only [bc, eM] at h2;obtain ⟨rfl, rfl⟩ := h2
     have key : iw l [] (st.next.open (st.now l).pos) s2 r2 /\ (s2.fe = 0 -> r2.length <= 8) := by
      split at h1
      ·simp only [bc, eM] at h1
       obtain ⟨rfl, rfl⟩ := h1
       exact ⟨iw.refl (hT.next.open dO), fun _ => lu _⟩
      ·exact ih _ _ _ _ h1 (hT.next.open dO) wZ.nil (lu _)
     obtain ⟨p, n⟩ := key
     refine ⟨p.AZ (p.inv.want hl).close (fun q => by obtain ⟨a, b⟩ := Cm q; exact ⟨a, b.symm⟩) fun q => ?_, fun q => ?_⟩
     ·obtain ⟨a1, a2⟩ := jA (s := [41]) (st := s2) (l := l) q
      exact ⟨a1, a2, rfl⟩
     ·exact n (jA (s := [41]) (st := s2) (l := l) q).1
    ·rename_i hf
     simp only [bc, eM] at h;obtain ⟨rfl, rfl⟩ := h
     exact ⟨iw.bad (hT.next.open dO) hf, fun _ => lu _⟩
   ·simp only [bc, eM] at h
    obtain ⟨rfl, rfl⟩ := h
    exact ⟨iw.bad (hT.fail (by decide) dO) (eg (by decide)), fun _ => lu _⟩
  | lU out =>
   simp only [jk] at h;have hm : out.length <= 8 := hm
   have t0 : TI l (if out.length = 8 then st.fail 3 (st.now l).pos else st) := by
    split
    ·exact hT.fail (by decide) dO
    ·exact hT
   have f0 : (if out.length = 8 then st.fail 3 (st.now l).pos else st).fe = 0 -> out.length < 8 /\ (if out.length = 8 then st.fail 3 (st.now l).pos else st) = st := by
    split
    ·exact fun q => absurd q (eg (by decide))
    ·exact fun _ => ⟨by omega, rfl⟩
   generalize (if out.length = 8 then st.fail 3 (st.now l).pos else st) = s0 at *
   obtain ⟨⟨s2, r2⟩, h1, h2⟩ := bind_some h
   obtain ⟨p, n⟩ := ih _ _ _ _ h1 t0 wZ.nil trivial
   obtain ⟨x, rfl⟩ := je n
   have p1 : iw l out st s2 (out ++ [x]) := ⟨p.inv, fun q => by
    obtain ⟨a0, new, a1, d1, a2⟩ := p.ok q
    obtain ⟨b0, rfl⟩ := f0 a0
    exact ⟨a0, new, a1, d1, fun a => by have := a2 a; simp only [gL.ins, List.count_nil] at this; rw [List.count_append]; omega⟩⟩
   have bt : s2.fe = 0 -> out.length < 8 := fun q => by
    obtain ⟨a0, _⟩ := p.ok q
    exact (f0 a0).1
   simp only at h2
   split at h2
   ·rename_i hc
    have p2 : iw l out st s2.next (out ++ [x]) := p1.AZ p1.inv.next (fun q => ⟨q, rfl⟩) fun q => ⟨q, rfl, rfl⟩
    obtain ⟨p3, n3⟩ := ih _ _ _ _ h2 p2.inv (p2.val hI) (by show (out ++ [x]).length <= 8; rw [ja]; exact bt hc.1)
    exact ⟨p2.trans p3, n3⟩
   ·simp only [bc, eM] at h2
    obtain ⟨rfl, rfl⟩ := h2
    exact ⟨p1, fun q => by rw [ja]; exact bt q⟩
end
section
theorem count_range (n : Nat) (a : Int) : ((List.range n).map (fun i : Nat => (i : Int))).count a = Jo 0 n a := by
 induction n with
 | zero => simp [Jo]
 | succ n ih =>
  rw [List.range_succ, List.map_append, List.count_append, ih, rH (b := n) (lu _) (Nat.le_succ _), Hv]
  rfl
theorem QX {l : List Tok} {tr : List Nd} {d : Nd} (h : Se l d) (hk : ∀ x ∈ d.kids, kc (kindOf tr x)) : cA tr d := by
 have k1 := h.kind
 have kn := h.kn
 have ex : ∀ n, n <= d.kids.length -> iO tr d.kids n := fun n hn => ⟨hn, fun x hx => hk x (List.mem_of_mem_take hx)⟩
 unfold cA;have bt : d.kind < 12 := by have := k1.2; omega
 by_cases c1 : d.kind = 5 \/ d.kind = 8
 ·rw [if_pos c1] at kn
  rw [if_pos (by rcases c1 with c | c <;> simp [c])]
  exact ⟨kn, ex 2 (by omega)⟩
 ·rw [if_neg c1] at kn
  rw [if_neg (by omega)];by_cases c2 : d.kind = 6 \/ d.kind = 7 \/ d.kind = 9 \/ d.kind = 10
  ·rw [if_pos c2] at kn
   rw [if_pos (by rcases c2 with c | c | c | c <;> simp [c])]
   exact ⟨kn, ex 1 (by omega)⟩
  ·rw [if_neg c2] at kn
   rw [if_neg (by omega)];by_cases c3 : d.kind = 11
   ·rw [if_pos c3] at kn
    rw [if_pos c3];exact ⟨kn, ex _ (fh _)⟩
   ·rw [if_neg c3] at kn
    rw [if_neg c3, if_neg (by omega), if_neg (by omega), if_neg (by omega), if_neg (by omega), if_neg (by omega), if_neg (by omega), if_neg (by omega)];exact kn
theorem Bl {tr Yx : List Nd} {d : Nd} (h : ∀ z ∈ d.kids, kindOf tr z = kindOf Yx z) (hk : cA tr d) : cA Yx d := by
 have ex : ∀ n, iO tr d.kids n -> iO Yx d.kids n := fun n q => ⟨q.1, fun x hx => by rw [<- h x (List.mem_of_mem_take hx)]; exact q.2 x hx⟩
 have al : ∀ (ks : List Int) (K : Int) (n : Nat), (∀ x ∈ ks, x ∈ d.kids) -> tY tr ks K n -> tY Yx ks K n := fun ks K n hs q => ⟨fun x hx => by rw [<- h x (hs x hx)]; exact q.1 x hx, q.2⟩
 unfold cA at hk ⊢
 by_cases c : d.kind = 5 \/ d.kind = 8 \/ d.kind = 14
 ·rw [if_pos c] at hk ⊢; exact ⟨hk.1, ex _ hk.2⟩
 rw [if_neg c] at hk ⊢; clear c
 by_cases c : d.kind = 6 \/ d.kind = 7 \/ d.kind = 9 \/ d.kind = 10 \/ d.kind = 12 \/ d.kind = 13 \/ d.kind = 20 \/ d.kind = 21
 ·rw [if_pos c] at hk ⊢; exact ⟨hk.1, ex _ hk.2⟩
 rw [if_neg c] at hk ⊢; clear c
 by_cases c : d.kind = 11
 ·rw [if_pos c] at hk ⊢; exact ⟨hk.1, ex _ hk.2⟩
 rw [if_neg c] at hk ⊢; clear c
 by_cases c : d.kind = 15
 ·rw [if_pos c] at hk ⊢; exact ⟨⟨ex _ hk.1.1, hk.1.2⟩, al _ _ _ (fun x => List.mem_of_mem_drop) hk.2⟩
 rw [if_neg c] at hk ⊢; clear c
 by_cases c : d.kind = 16
 ·rw [if_pos c] at hk ⊢; exact ⟨⟨ex _ hk.1.1, hk.1.2⟩, al _ _ _ (fun x => List.mem_of_mem_drop) hk.2⟩
 rw [if_neg c] at hk ⊢; clear c
 by_cases c : d.kind = 17
 ·rw [if_pos c] at hk ⊢; exact ⟨⟨ex _ hk.1.1, hk.1.2⟩, al _ _ _ (fun x => List.mem_of_mem_drop) hk.2⟩
 rw [if_neg c] at hk ⊢; clear c
 by_cases c : d.kind = 22
 ·rw [if_pos c] at hk ⊢; exact ⟨hk.1, fun x hx => by rw [<- h x hx]; exact hk.2 x hx⟩
 rw [if_neg c] at hk ⊢; clear c
 by_cases c : d.kind = 23
 ·rw [if_pos c] at hk ⊢; exact fun x hx => by rw [<- h x hx]; exact hk x hx
 rw [if_neg c] at hk ⊢; clear c
 by_cases c : d.kind = 25
 ·rw [if_pos c] at hk ⊢; exact ⟨⟨hk.1.1, al _ _ _ (fun x => List.mem_of_mem_take) hk.1.2⟩, fun x hx => by rw [<- h x (List.mem_of_mem_getLast? hx)]; exact hk.2 x hx⟩
 rw [if_neg c] at hk ⊢; clear c
 by_cases c : d.kind = 26
 ·rw [if_pos c] at hk ⊢; exact al _ _ _ (fun x hx => hx) hk
 rw [if_neg c] at hk ⊢; exact hk
structure Ig (l : List Tok) (tr : List Nd) (d : Nd) : Prop where
 own : BA d
 kids : cA tr d
 pos : ∃ t ∈ l, d.pos = (t.pos : Int)
def dS (tr : List Nd) (x : Int) (K : Int -> Prop) : Prop := 0 <= x /\ x < (tr.length : Int) /\ K (kindOf tr x)
theorem xJ {tr n : List Nd} {x : Int} (h0 : 0 <= x) (h : x < (tr.length : Int)) : kindOf (tr ++ n) x = kindOf tr x := by
 unfold kindOf; rw [A9 (by omega)]
theorem dS.app {tr n : List Nd} {x : Int} {K : Int -> Prop} (h : dS tr x K) : dS (tr ++ n) x K :=
 ⟨h.1, by rw [ja]; have := h.2.1; omega, by rw [xJ h.1 h.2.1]; exact h.2.2⟩
structure PP (l : List Tok) (st s1 : RS) (r : List Int) : Prop where
 inv : TI l s1
 ok : s1.fe = 0 -> st.fe = 0 /\ ∃ new, s1.tree = st.tree ++ new /\ (∀ d ∈ new, Ig l s1.tree d) /\ ∀ a, EQ new a + r.count a = Jo st.tree.length s1.tree.length a
section
variable {l : List Tok} {st st' s1 KM s2 : RS} {r r' : List Int} {K : Int -> Prop} {x : Int}
theorem PP.val (h : PP l st s1 r) (hf : s1.fe = 0) (hx : x ∈ r) : (st.tree.length : Int) <= x /\ x < (s1.tree.length : Int) := by
 obtain ⟨_, new, hn, _, hc⟩ := h.ok hf
 have h1 := hc x
 have h2 : 0 < r.count x := List.count_pos_iff.2 hx
 unfold Jo at h1
 split at h1
 ·assumption
 ·omega
theorem PP.grow (h : PP l st s1 r) (hf : s1.fe = 0) : st.fe = 0 /\ ∃ n, s1.tree = st.tree ++ n := by
 obtain ⟨h0, new, hn, _⟩ := h.ok hf; exact ⟨h0, new, hn⟩
theorem dS.pp (k : dS s1.tree x K) (h : PP l s1 s2 r) (hf : s2.fe = 0) : dS s2.tree x K := by
 obtain ⟨_, n, hn⟩ := h.grow hf; rw [hn]; exact k.app
theorem PP.refl (h : TI l st) : PP l st st [] := ⟨h, fun q => ⟨q, [], by simp, by simp, fun a => by rw [JX, Jn]; rfl⟩⟩
theorem PP.bad (h : TI l s1) (h0 : s1.fe ≠ 0) : PP l st s1 r := ⟨h, fun q => absurd q h0⟩
theorem PP.AZ (h : PP l st s1 r) (hi : TI l KM) (h0 : st.fe = 0 -> st'.fe = 0 /\ st'.tree = st.tree) (h2 : KM.fe = 0 -> s1.fe = 0 /\ KM.tree = s1.tree) : PP l st' KM r := by
 refine ⟨hi, fun q => ?_⟩
 obtain ⟨q1, q2⟩ := h2 q
 obtain ⟨p0, n1, e1, d1, c1⟩ := h.ok q1
 obtain ⟨p1, p2⟩ := h0 p0
 exact ⟨p1, n1, by rw [q2, p2, e1], by rw [q2]; exact d1, fun a => by rw [q2, p2]; exact c1 a⟩
theorem PP.to (h : PP l st s1 r) (hi : TI l KM) (h2 : KM.fe = 0 -> s1.fe = 0 /\ KM.tree = s1.tree) : PP l st KM r := h.AZ hi (fun q => ⟨q, rfl⟩) h2
theorem Gb {n1 : List Nd} {tr n : List Nd} (hk : lJ tr) {d : Nd} (hd : d ∈ tr) (h : Ig l tr d) : Ig l (tr ++ n) d := by
 refine ⟨h.own, Bl (fun z hz => ?_) h.kids, h.pos⟩
 obtain ⟨i, hi⟩ := List.mem_iff_getElem?.1 hd
 have h1 := hk i d hi z hz
 have h2 := (rc.1 hi).1
 rw [xJ h1.1 (by omega)]
theorem PP.trans (h : PP l st s1 r) (h' : PP l s1 s2 r') : PP l st s2 (r ++ r') := by
 refine ⟨h'.inv, fun q => ?_⟩
 obtain ⟨h1, n2, e2, d2, c2⟩ := h'.ok q
 obtain ⟨h0, n1, e1, d1, c1⟩ := h.ok h1
 refine ⟨h0, n1 ++ n2, by rw [e2, e1, List.append_assoc], fun d hd => ?_, fun a => ?_⟩
 ·rcases uy.1 hd with hd | hd
  ·rw [e2]; exact Gb (n1 := []) (h.inv.t h1).lt (by rw [e1]; exact List.mem_append_right _ hd) (d1 d hd)
  ·exact d2 d hd
 ·have := c1 a; have := c2 a
  have l1 : s1.tree.length = st.tree.length + n1.length := by rw [e1, ja]
  have l2 : s2.tree.length = s1.tree.length + n2.length := by rw [e2, ja]
  rw [z0, rH (b := s1.tree.length) (by omega) (by omega), List.count_append];omega
theorem PP.put {d : Nd} (h : PP l st s1 r) (hp : ∃ t ∈ l, d.pos = (t.pos : Int)) (hd : s1.fe = 0 -> BA d /\ cA s1.tree d) (hk : ∀ a, d.kids.count a = r.count a) :
  PP l st (s1.put d) [s1.gO d] /\ ((s1.put d).fe = 0 -> s1.fe = 0 /\ dS (s1.put d).tree (s1.gO d) (· = d.kind)) := by
 have Ex : s1.fe = 0 -> ∀ z ∈ d.kids, 0 <= z /\ z < (s1.tree.length : Int) := fun q z hz => by
  have h2 : 0 < d.kids.count z := List.count_pos_iff.2 hz
  rw [hk z] at h2;have := h.val q (List.count_pos_iff.1 h2)
  omega
 obtain ⟨g1, g2⟩ := Mq (st := s1) h.inv hp Ex
 refine ⟨⟨g1, fun q => ?_⟩, fun q => ?_⟩
 ·obtain ⟨p0, p1, p2⟩ := g2 q
  obtain ⟨h0, new, hn, dn, hc⟩ := h.ok p0
  have hlen : s1.tree.length = st.tree.length + new.length := by rw [hn, ja]
  refine ⟨h0, new ++ [d], by rw [p1, hn, List.append_assoc], fun e he => ?_, fun a => ?_⟩
  ·rw [p1]
   rcases uy.1 he with he | he
   ·exact Gb (n1 := []) (h.inv.t p0).lt (by rw [hn]; exact List.mem_append_right _ he) (dn e he)
   ·rw [Ar.1 he]
    exact ⟨(hd p0).1, Bl (fun z hz => by have := Ex p0 z hz; rw [xJ this.1 this.2]) (hd p0).2, hp⟩
  ·rw [z0, JW, hk, p2, p1, ja, List.length_singleton, rH (b := s1.tree.length) (by omega) (by omega), Hv]
   have := hc a
   omega
 ·obtain ⟨p0, p1, p2⟩ := g2 q
  refine ⟨p0, ?_⟩
  rw [p1, p2];refine ⟨by omega, by rw [ja, List.length_singleton]; omega, ?_⟩
  show kindOf _ _ = _
  unfold kindOf;rw [Int.toNat_natCast, BO (fh _), Nat.sub_self]; rfl
theorem PP.of (h : iw l [] st s1 r) : PP l st s1 r /\ (s1.fe = 0 -> ∀ x ∈ r, dS s1.tree x kc) := by
 have key : s1.fe = 0 -> ∀ a, 0 < Jo st.tree.length s1.tree.length a -> dS s1.tree a kc := by
  intro q a ha
  obtain ⟨h0, new, hn, dn, hc⟩ := h.ok q
  unfold Jo at ha
  split at ha
  ·rename_i hr
   have bt : a.toNat < s1.tree.length := by omega
   refine ⟨by omega, hr.2, ?_⟩
   unfold kindOf;rw [mZ bt];refine (dn _ ?_).kind
   have e : s1.tree[a.toNat]? = new[a.toNat - st.tree.length]? := by rw [hn, BO (by omega)]
   rw [mZ bt] at e;exact List.mem_of_getElem? e.symm
  ·omega
 refine ⟨⟨h.inv, fun q => ?_⟩, fun q x hx => key q x ?_⟩
 ·obtain ⟨h0, new, hn, dn, hc⟩ := h.ok q
  refine ⟨h0, new, hn, fun d hd => ⟨(dn d hd).own, QX (dn d hd) fun z hz => (key q z ?_).2.2, (dn d hd).pos⟩, fun a => by have := hc a; simp only [List.count_nil] at this; omega⟩
  have h1 : 0 < EQ new z := List.count_pos_iff.2 (List.mem_flatten.2 ⟨d.kids, List.mem_map.2 ⟨d, hd, rfl⟩, hz⟩)
  have := hc z; simp only [List.count_nil] at this; omega
 ·obtain ⟨h0, new, hn, dn, hc⟩ := h.ok q
  have h1 : 0 < r.count x := List.count_pos_iff.2 hx
  have := hc x; simp only [List.count_nil] at this; omega
variable (ht : bS l) (hg : ∀ t ∈ l, t.kind = 1 -> t.text ≠ [] /\ nj t.text)
include ht hg
theorem Bo (hp : st.pos < l.length) (hT : TI l st) : PP l st (j0 l st).1 [(j0 l st).2] /\ ((j0 l st).1.fe = 0 -> dS (j0 l st).1.tree (j0 l st).2 kc) := by
 obtain ⟨k, r, e, hk, hv, _, h1⟩ := kR ht hp
 obtain ⟨p, _⟩ := Rz ht.pos hg _ _ _ _ _ e hT wZ.nil trivial
 obtain ⟨y, rfl⟩ := je h1
 obtain ⟨q1, q2⟩ := PP.of p
 rw [hv];exact ⟨q1, fun q => q2 q _ (by simp)⟩
theorem Xf (hp : st.pos < l.length) (hT : TI l st) (a z : bZ) : PP l st (CC l a z st).1 [(CC l a z st).2] /\ ((CC l a z st).1.fe = 0 -> dS (CC l a z st).1.tree (CC l a z st).2 kc) := by
 obtain ⟨k, r, e, hk, hv, _, h1⟩ := Ep ht hp a z
 obtain ⟨p, _⟩ := Rz ht.pos hg _ _ _ _ _ e hT wZ.nil trivial
 obtain ⟨y, rfl⟩ := je h1
 obtain ⟨q1, q2⟩ := PP.of p
 rw [hv];exact ⟨q1, fun q => q2 q _ (by simp)⟩
theorem Ys (hp : st.pos < l.length) (hT : TI l st) : PP l st (wX l st).1 (wX l st).2 /\ ((wX l st).1.fe = 0 -> (wX l st).2.length <= 8 /\ ∀ x ∈ (wX l st).2, dS (wX l st).1.tree x kc) := by
 obtain ⟨k, e, hk, _, h1⟩ := H7 ht hp
 obtain ⟨p, n⟩ := Rz ht.pos hg _ _ _ _ _ e hT wZ.nil trivial
 obtain ⟨q1, q2⟩ := PP.of p
 exact ⟨q1, fun q => ⟨n q, q2 q⟩⟩
end
end
section
theorem kJ {l : List Tok} {kind n : Int} {kids : List Int} {s : bZ} {p : Nat} (h1 : 1 <= kind /\ kind <= 26) (h2 : kind ∈ sX ↔ s ≠ []) (h3 : s ≠ [] -> nj s) (h4 : if kind = 1 then 0 <= n else if kind = 2 then n = 0 \/ n = 1 else if kind = 5 then 1 <= n /\ n <= 16 else if kind = 24 \/ kind = 25 then 1 <= n /\ n <= 3 else n = 0) : BA (nd kind kids n s (p : Int)) := by
 refine ⟨?_, fun q => q.2 (h3 q.1), h4⟩
 rintro ((q | q) | q)
 ·simp only [nd] at q; omega
 ·simp only [nd] at q; omega
 ·exact q h2
theorem QY {tr : List Nd} {kind x n p : Int} {s : bZ} (hk : kind = 12 \/ kind = 13 \/ kind = 20 \/ kind = 21) (h : kc (kindOf tr x)) : cA tr (nd kind [x] n s p) := by
 rcases hk with rfl | rfl | rfl | rfl <;> simp [cA, nd, iO, h]
theorem Uq {tr : List Nd} {kind n p : Int} {s : bZ} (hk : kind = 18 \/ kind = 19 \/ kind = 24) : cA tr (nd kind [] n s p) := by
 rcases hk with rfl | rfl | rfl <;> simp [cA, nd]
theorem dS.SM {tr : List Nd} {x k : Int} (h : dS tr x (· = k)) (hk : iE k) : dS tr x iE := ⟨h.1, h.2.1, (show kindOf tr x = k from h.2.2) ▸ hk⟩
section
variable {l : List Tok} {st s1 : RS} {r : List Int}
theorem TI.name (hl : 0 < l.length) (h : TI l st) : TI l (st.name l) := by
 unfold RS.name; split
 ·exact h.next
 ·exact h.fail (by decide) ⟨_, lA hl, rfl⟩
theorem Cu (h : (st.name l).fe = 0) : st.fe = 0 /\ (st.name l).tree = st.tree /\ st.nV l := by
 unfold RS.name at h ⊢
 split at h
 ·rename_i q; rw [if_pos q]; exact ⟨h, rfl, q⟩
 ·exact absurd h (eg (by decide))
theorem TI.kd (hl : 0 < l.length) (h : TI l st) : TI l (kE l st).1 := by
 unfold kE; split
 ·exact h.next
 ·split
  ·exact h.next
  ·split
   ·exact h.next
   ·exact h.fail (by decide) ⟨_, lA hl, rfl⟩
theorem Gi (h : (kE l st).1.fe = 0) : st.fe = 0 /\ (kE l st).1.tree = st.tree /\ 1 <= (kE l st).2 /\ (kE l st).2 <= 3 := by
 unfold kE at h ⊢
 split at h
 ·rename_i q; rw [if_pos q]; exact ⟨h, rfl, by simp, by simp⟩
 ·rename_i q; rw [if_neg q]
  split at h
  ·rename_i q; rw [if_pos q]; exact ⟨h, rfl, by simp, by simp⟩
  ·rename_i q; rw [if_neg q]
   split at h
   ·rename_i q; rw [if_pos q]; exact ⟨h, rfl, by simp, by simp⟩
   ·exact absurd h (eg (by decide))
theorem PP.want (hl : 0 < l.length) (h : PP l st s1 r) {s : bZ} : PP l st (s1.want l s) r := h.to (h.inv.want hl) jA
theorem PP.name (hl : 0 < l.length) (h : PP l st s1 r) : PP l st (s1.name l) r := h.to (h.inv.name hl) fun q => ⟨(Cu q).1, (Cu q).2.1⟩
theorem PP.kd (hl : 0 < l.length) (h : PP l st s1 r) : PP l st (kE l s1).1 r := h.to (h.inv.kd hl) fun q => ⟨(Gi q).1, (Gi q).2.1⟩
theorem AU (hl : 0 < l.length) (h : PP l st s1 r) {d : Nd} (hp : ∃ t ∈ l, d.pos = (t.pos : Int)) (hd : s1.fe = 0 -> BA d /\ cA s1.tree d) (hk : ∀ a, d.kids.count a = r.count a) :
  PP l st (lP l s1 d).1 [(lP l s1 d).2] /\ ((lP l s1 d).1.fe = 0 -> dS (lP l s1 d).1.tree (lP l s1 d).2 (· = d.kind)) := by
 obtain ⟨q1, q2⟩ := (h.want hl (s := [59])).put hp (fun q => by obtain ⟨a, b⟩ := jA q; rw [b]; exact hd a) hk
 exact ⟨q1, fun q => (q2 q).2⟩
variable (ht : bS l) (hg : ∀ t ∈ l, t.kind = 1 -> t.text ≠ [] /\ nj t.text)
include ht hg
theorem mB (h : (st.name l).fe = 0) : st.cP l ≠ [] /\ nj (st.cP l) := by
 obtain ⟨_, _, q⟩ := Cu h
 unfold RS.cP; rw [if_pos q]
 exact hg _ (lA ht.pos) q.2
theorem Ve (hp : st.pos < l.length) (hT : TI l st) : PP l st (Ei l st).1 [(Ei l st).2] /\ ((Ei l st).1.fe = 0 -> dS (Ei l st).1.tree (Ei l st).2 iE) := by
 have hl := ht.pos
 have g1 := Gr.name ht hp
 have g2 := g1.trans (Gr.want ht g1.pl (s := [61]))
 have p2 := ((PP.refl hT).name hl).want hl (s := [61])
 obtain ⟨q1, q2⟩ := Bo ht hg g2.pl p2.inv
 have p3 := p2.trans q1
 obtain ⟨e1, e2⟩ := AU hl p3 (d := nd 12 [(j0 l ((st.name l).want l [61])).2] 0 (st.cP l) (st.now l).pos) ⟨_, lA hl, rfl⟩ (fun q => by
  have h1 := (q1.grow q).1
  obtain ⟨h2, _⟩ := jA h1
  obtain ⟨h3, h4⟩ := mB ht hg h2
  exact ⟨kJ (l := l) ⟨by decide, by decide⟩ ⟨fun _ => h3, fun _ => by decide⟩ (fun _ => h4) rfl, QY (.inl rfl) (q2 q).2.2⟩) (fun a => rfl)
 exact ⟨e1, fun q => (e2 q).SM (by simp [iE, nd])⟩
theorem Qs {p : Nat} (dO : ∃ t ∈ l, (p : Int) = (t.pos : Int)) {kind : Int} (hk : kind = 20 \/ kind = 21) (hp : st.pos < l.length) (hT : TI l st) : PP l st (qb l kind p st).1 [(qb l kind p st).2] /\ ((qb l kind p st).1.fe = 0 -> dS (qb l kind p st).1.tree (qb l kind p st).2 iE) := by
 have hl := ht.pos
 obtain ⟨q1, q2⟩ := Bo ht hg hp hT
 obtain ⟨e1, e2⟩ := AU hl q1 (d := nd kind [(j0 l st).2] 0 [] p) dO (fun q => by
  refine ⟨?_, QY (by omega) (q2 q).2.2⟩
  rcases hk with rfl | rfl <;> exact kJ (l := l) ⟨by decide, by decide⟩ (by decide) (fun q => absurd rfl q) rfl) (fun a => rfl)
 refine ⟨e1, fun q => (e2 q).SM ?_⟩
 rcases hk with rfl | rfl <;> simp [iE, nd]
theorem NI {p : Nat} (dO : ∃ t ∈ l, (p : Int) = (t.pos : Int)) {kind : Int} (hk : kind = 18 \/ kind = 19) (hT : TI l st) : PP l st (lP l st (nd kind [] 0 [] p)).1 [(lP l st (nd kind [] 0 [] p)).2] /\ ((lP l st (nd kind [] 0 [] p)).1.fe = 0 -> dS (lP l st (nd kind [] 0 [] p)).1.tree (lP l st (nd kind [] 0 [] p)).2 iE) := by
 have hl := ht.pos
 obtain ⟨e1, e2⟩ := AU hl (PP.refl hT) (d := nd kind [] 0 [] p) dO (fun q => by
  refine ⟨?_, Uq (by omega)⟩
  rcases hk with rfl | rfl <;> exact kJ (l := l) ⟨by decide, by decide⟩ (by decide) (fun q => absurd rfl q) rfl) (fun a => rfl)
 refine ⟨e1, fun q => (e2 q).SM ?_⟩
 rcases hk with rfl | rfl <;> simp [iE, nd]
theorem QD (hp : st.pos < l.length) (hT : TI l st) : PP l st (lC l st).1 [(lC l st).2] /\ ((lC l st).1.fe = 0 -> dS (lC l st).1.tree (lC l st).2 iE) := by
 have hl := ht.pos
 have g1 := Gr.name ht hp
 have p1 := (PP.refl hT).name hl
 have dO : ∃ t ∈ l, ((st.now l).pos : Int) = (t.pos : Int) := ⟨_, lA hl, rfl⟩
 unfold lC;simp only
 split
 ·rename_i hq
  obtain ⟨q1, q2⟩ := Ys ht hg g1.pl p1.inv
  have p2 := p1.trans q1
  have hn := mB ht hg hq.1
  obtain ⟨c1, c2⟩ := p2.put (d := nd 11 (wX l (st.name l)).2 0 (st.cP l) (st.now l).pos) dO (fun q => by
   refine ⟨kJ (l := l) ⟨by decide, by decide⟩ ⟨fun _ => hn.1, fun _ => by decide⟩ (fun _ => hn.2) rfl, ?_⟩
   obtain ⟨a1, a2⟩ := q2 q
   have : iO (wX l (st.name l)).1.tree (wX l (st.name l)).2 (wX l (st.name l)).2.length := ⟨fh _, fun x hx => (a2 x (List.mem_of_mem_take hx)).2.2⟩
   simp [cA, nd, a1, this]) (fun a => rfl)
  obtain ⟨e1, e2⟩ := AU hl c1 (d := nd 22 [(wX l (st.name l)).1.gO (nd 11 (wX l (st.name l)).2 0 (st.cP l) (st.now l).pos)] 0 [] (st.now l).pos) dO (fun q => by
   refine ⟨kJ (l := l) ⟨by decide, by decide⟩ (by decide) (fun q => absurd rfl q) rfl, ?_⟩
   have := (c2 q).2.2.2
   simp only [nd] at this;simp [cA, nd, this]) (fun a => rfl)
  exact ⟨e1, fun q => (e2 q).SM (by simp [iE, nd])⟩
 ·split
  ·rename_i hq
   obtain ⟨q1, q2⟩ := Xf ht hg g1.pl p1.inv [91] [93]
   have p2 := (p1.trans q1).want hl (s := [61])
   obtain ⟨_, _, _, _, _, g2, _⟩ := Ep ht g1.pl [91] [93]
   have g3 := (g1.trans g2).trans (Gr.want ht g2.pl (s := [61]))
   obtain ⟨q3, q4⟩ := Bo ht hg g3.pl p2.inv
   have hn := mB ht hg hq.1
   have p3 := p2.trans q3
   obtain ⟨e1, e2⟩ := AU hl p3 (d := nd 14 [(CC l [91] [93] (st.name l)).2, (j0 l ((CC l [91] [93] (st.name l)).1.want l [61])).2] 0 (st.cP l) ((st.name l).now l).pos) ⟨_, lA hl, rfl⟩ (fun q => by
    refine ⟨kJ (l := l) ⟨by decide, by decide⟩ ⟨fun _ => hn.1, fun _ => by decide⟩ (fun _ => hn.2) rfl, ?_⟩
    have h1 := (q3.grow q).1
    obtain ⟨h2, h3⟩ := jA h1
    have k1 : dS ((CC l [91] [93] (st.name l)).1.want l [61]).tree (CC l [91] [93] (st.name l)).2 kc := by rw [h3]; exact q2 h2
    have k1 := (k1.pp q3 q).2.2
    have k2 := (q4 q).2.2
    simp [cA, nd, iO, k1, k2]) (fun a => by simp [nd, List.count_cons])
   exact ⟨e1, fun q => (e2 q).SM (by simp [iE, nd])⟩
  ·have p2 := p1.want hl (s := [61])
   have g3 := g1.trans (Gr.want ht g1.pl (s := [61]))
   obtain ⟨q3, q4⟩ := Bo ht hg g3.pl p2.inv
   have p3 := p2.trans q3
   obtain ⟨e1, e2⟩ := AU hl p3 (d := nd 13 [(j0 l ((st.name l).want l [61])).2] 0 (st.cP l) (st.now l).pos) dO (fun q => by
    obtain ⟨h2, _⟩ := jA (q3.grow q).1
    have hn := mB ht hg h2
    exact ⟨kJ (l := l) ⟨by decide, by decide⟩ ⟨fun _ => hn.1, fun _ => by decide⟩ (fun _ => hn.2) rfl, QY (.inr (.inl rfl)) (q4 q).2.2⟩) (fun a => rfl)
   exact ⟨e1, fun q => (e2 q).SM (by simp [iE, nd])⟩
end
end
section
def PC.post (l : List Tok) (st s1 : RS) : PC -> List Int -> Prop
 | .stmt, r => PP l st s1 r /\ r.length = 1 /\ (s1.fe = 0 -> ∀ x ∈ r, dS s1.tree x iE)
 | .block, r => PP l st s1 r /\ r.length = 1 /\ (s1.fe = 0 -> ∀ x ∈ r, dS s1.tree x (· = 23))
 | .func, r => PP l st s1 r /\ r.length = 1 /\ (s1.fe = 0 -> (∀ x ∈ r, dS s1.tree x (· = 25)) /\ (st.want l Ap).fe = 0)
 | .kW out, r => ∃ r', r = out ++ r' /\ PP l st s1 r' /\ (s1.fe = 0 -> ∀ x ∈ r', dS s1.tree x iE)
 | .um out, r => ∃ r', r = out ++ r' /\ PP l st s1 r' /\ (s1.fe = 0 -> (∀ x ∈ r', dS s1.tree x (· = 24)) /\ r.length <= 8)
 | .qX out, r => ∃ r', r = out ++ r' /\ PP l st s1 r' /\ (s1.fe = 0 -> (∀ x ∈ r', dS s1.tree x (· = 25)) /\ r.length <= 200)
def PC.pre (st : RS) : PC -> Prop
 | .um out => out.length <= 8
 | .qX out => out.length <= 200
 | _ => True
theorem MJ {tr : List Nd} {x y n p : Int} {zs : List Int} {s : bZ} (h : kc (kindOf tr x)) (hy : kindOf tr y = 23) (hz : ∀ z ∈ zs, kindOf tr z = 23) (hl : zs.length <= 1) : cA tr (nd 15 (x :: y :: zs) n s p) := by
 have h1 : iO tr (x :: y :: zs) 1 := ⟨by simp, by simp [h]⟩
 have h2 : tY tr (y :: zs) 23 2 := ⟨by simpa [hy] using hz, by simp; omega⟩
 simp [cA, nd, h1, h2]
theorem Ln {tr : List Nd} {x y n p : Int} {s : bZ} (h : kc (kindOf tr x)) (hy : kindOf tr y = 23) : cA tr (nd 16 [x, y] n s p) := by
 have h1 : iO tr [x, y] 1 := ⟨by simp, by simp [h]⟩
 have h2 : tY tr [y] 23 1 := ⟨by simp [hy], by simp⟩
 simp [cA, nd, h1, h2]
theorem QW {tr : List Nd} {w x y n p : Int} {s : bZ} (h0 : kc (kindOf tr w)) (h : kc (kindOf tr x)) (hy : kindOf tr y = 23) : cA tr (nd 17 [w, x, y] n s p) := by
 have h1 : iO tr [w, x, y] 2 := ⟨by simp, by simp [h0, h]⟩
 have h2 : tY tr [y] 23 1 := ⟨by simp [hy], by simp⟩
 simp [cA, nd, h1, h2]
theorem Lo {tr : List Nd} {r : List Int} {n p : Int} {s : bZ} (h : ∀ x ∈ r, iE (kindOf tr x)) : cA tr (nd 23 r n s p) := by
 simp [cA, nd]; exact h
theorem QV {tr : List Nd} {r : List Int} {y n p : Int} {s : bZ} (h : ∀ x ∈ r, kindOf tr x = 24) (hl : r.length <= 8) (hy : kindOf tr y = 23) : cA tr (nd 25 (r ++ [y]) n s p) := by
 have h1 : tY tr r 24 8 := ⟨h, hl⟩
 simp [cA, nd, hy, h1]
theorem OI {tr : List Nd} {r : List Int} {n p : Int} {s : bZ} (h : ∀ x ∈ r, kindOf tr x = 25) (hl : r.length <= 200) : cA tr (nd 26 r n s p) := by
 have h1 : tY tr r 25 200 := ⟨h, hl⟩
 simp [cA, nd, h1]
theorem VU {l : List Tok} (ht : bS l) (hg : ∀ t ∈ l, t.kind = 1 -> t.text ≠ [] /\ nj t.text) : ∀ (k : Nat) (c : PC) (st s1 : RS) (r : List Int), lW l k c st = some (s1, r) -> st.pos < l.length -> TI l st -> c.pre st -> s1.pos < l.length /\ c.post l st s1 r := by
 intro k
 have hl := ht.pos
 induction k with
 | zero => intro c st s1 r h; cases h
 | succ k ih =>
  intro c st s1 r h hp hT hm
  have pH := lA (st := st) hl
  have dO : ∃ t ∈ l, ((st.now l).pos : Int) = (t.pos : Int) := ⟨_, pH, rfl⟩
  cases c with
  | stmt =>
   have done : ∀ {x : RS × Int}, Gr l st.next x.1 -> PP l st.next x.1 [x.2] -> (x.1.fe = 0 -> dS x.1.tree x.2 iE) -> some (IV x) = some (s1, r) -> s1.pos < l.length /\ PC.post l st s1 .stmt r := by
    intro x g pp kx h
    obtain ⟨rfl, rfl⟩ := eM _ _ _ _ ▸ pE h
    exact ⟨g.pl, pp.AZ pp.inv (fun q => ⟨q, rfl⟩) (fun q => ⟨q, rfl⟩), rfl, fun q y hy => by rw [Ar.1 hy]; exact kx q⟩
   have fin : ∀ {s0 : RS} {ks : List Int} (d : Nd), s0.pos < l.length -> PP l st s0 ks -> d.pos = ((st.now l).pos : Int) \/ (∃ t ∈ l, d.pos = (t.pos : Int)) -> (s0.fe = 0 -> BA d /\ cA s0.tree d) -> (∀ a, d.kids.count a = ks.count a) -> iE d.kind -> uU s0 d = some (s1, r) -> s1.pos < l.length /\ PC.post l st s1 .stmt r := by
    intro s0 ks d g pp hpd ho hc Sx h
    obtain ⟨rfl, rfl⟩ := eM _ _ _ _ ▸ pE h
    obtain ⟨q1, q2⟩ := pp.put (d := d) (hpd.elim (fun q => q ▸ dO) id) ho hc
    exact ⟨by rw [oi]; exact g, q1, rfl, fun q y hy => by rw [Ar.1 hy]; exact (q2 q).2.SM Sx⟩
   have p0 : PP l st st.next [] := (PP.refl hT).to hT.next fun q => ⟨q, rfl⟩
   simp only [lW] at h
   split at h
   ·rename_i q; have hn := is_lt ht hp q
    obtain ⟨a, b⟩ := Ve ht hg (st := st.next) hn hT.next
    exact done (MI ht hn).1 a b h
   ·split at h
    ·rename_i q; have hn := is_lt ht hp q
     obtain ⟨e1, e2⟩ := Bo ht hg (st := st.next) hn hT.next
     obtain ⟨_, _, _, _, _, ge, _⟩ := kR (st := st.next) ht hn
     simp only [Xg] at h;obtain ⟨⟨s2, r2⟩, h1, h2⟩ := bind_some h
     obtain ⟨l2, p2, n2, k2⟩ := ih _ _ _ _ h1 ge.pl e1.inv trivial
     obtain ⟨y, rfl⟩ := je n2
     have pp := (p0.trans e1).trans p2
     simp only at h2
     split at h2
     ·rename_i q2
      obtain ⟨⟨s3, r3⟩, h3, h4⟩ := bind_some h2
      have hn2 := is_lt ht l2 q2
      obtain ⟨l3, p3, n3, k3⟩ := ih _ _ _ _ h3 hn2 p2.inv.next trivial
      obtain ⟨z, rfl⟩ := je n3
      have p2' : PP l st s2.next ([] ++ [(j0 l st.next).2] ++ [y]) := pp.to p2.inv.next fun q => ⟨q, rfl⟩
      refine fin (nd 15 ((j0 l st.next).2 :: [y] ++ [z]) 0 [] (st.now l).pos) l3 (p2'.trans p3) (.inl rfl) (fun q => ⟨kJ (l := l) ⟨by decide, by decide⟩ (by decide) (fun q => absurd rfl q) rfl, ?_⟩) (fun a => rfl) (by simp [iE, nd]) h4
      have f2 := (p3.grow q).1
      have f2' : s2.fe = 0 := f2
      have f1 := (p2.grow f2').1
      have kx := ((e2 f1).pp p2 f2')
      have kx' : dS s2.next.tree (j0 l st.next).2 kc := kx
      have ky : dS s2.next.tree y (· = 23) := k2 f2' y (by simp)
      exact MJ (kx'.pp p3 q).2.2 (ky.pp p3 q).2.2 (fun w hw => by rw [Ar.1 hw]; exact (k3 q z (by simp)).2.2) (by simp)
     ·refine fin (nd 15 ((j0 l st.next).2 :: [y]) 0 [] (st.now l).pos) l2 pp (.inl rfl) (fun q => ⟨kJ (l := l) ⟨by decide, by decide⟩ (by decide) (fun q => absurd rfl q) rfl, ?_⟩) (fun a => rfl) (by simp [iE, nd]) h2
      have f1 := (p2.grow q).1
      exact MJ (zs := []) ((e2 f1).pp p2 q).2.2 (k2 q y (by simp)).2.2 (by simp) (by simp)
    ·split at h
     ·rename_i q; have hn := is_lt ht hp q
      obtain ⟨e1, e2⟩ := Bo ht hg (st := st.next) hn hT.next
      obtain ⟨_, _, _, _, _, ge, _⟩ := kR (st := st.next) ht hn
      simp only [DF] at h;obtain ⟨⟨s2, r2⟩, h1, h2⟩ := bind_some h
      obtain ⟨l2, p2, n2, k2⟩ := ih _ _ _ _ h1 ge.pl e1.inv trivial
      obtain ⟨y, rfl⟩ := je n2
      refine fin (nd 16 ((j0 l st.next).2 :: [y]) 0 [] (st.now l).pos) l2 ((p0.trans e1).trans p2) (.inl rfl) (fun q => ⟨kJ (l := l) ⟨by decide, by decide⟩ (by decide) (fun q => absurd rfl q) rfl, ?_⟩) (fun a => rfl) (by simp [iE, nd]) h2
      have f1 := (p2.grow q).1
      exact Ln ((e2 f1).pp p2 q).2.2 (k2 q y (by simp)).2.2
     ·split at h
      ·rename_i q; have hn := is_lt ht hp q
       have g1 : Gr l st.next (st.next.name l) := Gr.name ht hn
       have g2 := g1.trans (Gr.want ht g1.pl (s := [61]))
       have p2 := ((p0.name hl).want hl (s := [61]))
       obtain ⟨e1, e2⟩ := Bo ht hg g2.pl p2.inv
       obtain ⟨_, _, _, _, _, ge, _⟩ := kR ht g2.pl
       have g3 := g2.trans ge
       have p3 := (p2.trans e1).want hl (s := [44])
       have g4 := g3.trans (Gr.want ht g3.pl (s := [44]))
       obtain ⟨e3, e4⟩ := Bo ht hg g4.pl p3.inv
       obtain ⟨_, _, _, _, _, gf, _⟩ := kR ht g4.pl
       simp only [RI] at h;obtain ⟨⟨s2, r2⟩, h1, h2⟩ := bind_some h
       obtain ⟨l2, p4, n2, k2⟩ := ih _ _ _ _ h1 gf.pl e3.inv trivial
       obtain ⟨y, rfl⟩ := je n2
       refine fin (nd 17 ((j0 l ((st.next.name l).want l [61])).2 :: (j0 l ((j0 l ((st.next.name l).want l [61])).1.want l [44])).2 :: [y]) 0 (st.next.cP l) (st.next.now l).pos) l2 ((p3.trans e3).trans p4) (.inr ⟨_, lA hl, rfl⟩) (fun q => ?_) (fun a => rfl) (by simp [iE, nd]) h2
       have f3 := (p4.grow q).1
       have f2 := (e3.grow f3).1
       obtain ⟨f1, t1⟩ := jA f2
       obtain ⟨f0, t0⟩ := jA (e1.grow f1).1
       have hn := mB ht hg f0
       have kw : dS ((j0 l ((st.next.name l).want l [61])).1.want l [44]).tree (j0 l ((st.next.name l).want l [61])).2 kc := by rw [t1]; exact e2 f1
       exact ⟨kJ (l := l) ⟨by decide, by decide⟩ ⟨fun _ => hn.1, fun _ => by decide⟩ (fun _ => hn.2) rfl, QW ((kw.pp e3 f3).pp p4 q).2.2 ((e4 f3).pp p4 q).2.2 (k2 q y (by simp)).2.2⟩
      ·split at h
       ·rename_i q; have hn := is_lt ht hp q
        obtain ⟨a, b⟩ := NI ht hg dO (.inl rfl) (hT.next)
        exact done (oC ht (.refl hn) _).1 a b h
       ·split at h
        ·rename_i q; have hn := is_lt ht hp q
         obtain ⟨a, b⟩ := NI ht hg dO (.inr rfl) (hT.next)
         exact done (oC ht (.refl hn) _).1 a b h
        ·split at h
         ·rename_i q; have hn := is_lt ht hp q
          obtain ⟨a, b⟩ := Qs ht hg dO (.inl rfl) (st := st.next) hn hT.next
          exact done (Cq ht hn _ _).1 a b h
         ·split at h
          ·rename_i q; have hn := is_lt ht hp q
           obtain ⟨a, b⟩ := Qs ht hg dO (.inr rfl) (st := st.next) hn hT.next
           exact done (Cq ht hn _ _).1 a b h
          ·obtain ⟨a, b⟩ := QD ht hg hp hT
           obtain ⟨rfl, rfl⟩ := eM _ _ _ _ ▸ pE h
           exact ⟨(Gd ht hp).1.pl, a, rfl, fun q y hy => by rw [Ar.1 hy]; exact b q⟩
  | block =>
   simp only [lW] at h
   split at h
   ·rename_i q
    have hn := is_lt ht hp q
    have go := Gr.open hn (p := ((st.now l).pos : Int))
    split at h
    ·obtain ⟨⟨s2, r2⟩, h1, h2⟩ := bind_some h
     obtain ⟨l2, r', FA, p2, k2⟩ := ih _ _ _ _ h1 go.pl (hT.next.open dO) trivial
     rw [List.nil_append] at FA
     subst FA
     have p1 : PP l st s2.close r2 := p2.AZ p2.inv.close (fun q => by obtain ⟨a, b⟩ := Cm q; exact ⟨a, b.symm⟩) fun q => ⟨q, rfl⟩
     obtain ⟨rfl, rfl⟩ := eM _ _ _ _ ▸ pE h2
     obtain ⟨q1, q2⟩ := p1.put (d := nd 23 r2 0 [] (st.now l).pos) dO (fun q => ⟨kJ (l := l) ⟨by decide, by decide⟩ (by decide) (fun q => absurd rfl q) rfl, Lo fun x hx => (k2 q x hx).2.2⟩) (fun a => rfl)
     exact ⟨by rw [oi]; exact l2, q1, rfl, fun q y hy => by rw [Ar.1 hy]; exact (q2 q).2⟩
    ·rename_i hf
     obtain ⟨rfl, rfl⟩ := eM _ _ _ _ ▸ pE h
     exact ⟨go.pl, .bad (hT.next.open dO) hf, rfl, fun q => absurd q hf⟩
   ·obtain ⟨rfl, rfl⟩ := eM _ _ _ _ ▸ pE h
    exact ⟨(Gr.fail hp (by decide)).pl, .bad (hT.fail (by decide) dO) (eg (by decide)), rfl, fun q => absurd q (eg (by decide))⟩
  | kW out =>
   simp only [lW] at h
   split at h
   ·rename_i q
    obtain ⟨rfl, rfl⟩ := eM _ _ _ _ ▸ pE h
    exact ⟨is_lt ht hp q, [], by simp, (PP.refl hT).to hT.next fun q => ⟨q, rfl⟩, fun _ x hx => by cases hx⟩
   ·obtain ⟨⟨s2, r2⟩, h1, h2⟩ := bind_some h
    obtain ⟨l2, p2, n2, k2⟩ := ih _ _ _ _ h1 hp hT trivial
    simp only at h2
    split at h2
    ·obtain ⟨l3, r', rfl, p3, k3⟩ := ih _ _ _ _ h2 l2 p2.inv trivial
     refine ⟨l3, r2 ++ r', by rw [List.append_assoc], p2.trans p3, fun q x hx => ?_⟩
     rcases uy.1 hx with hx | hx
     ·exact (k2 (p3.grow q).1 x hx).pp p3 q
     ·exact k3 q x hx
    ·obtain ⟨rfl, rfl⟩ := eM _ _ _ _ ▸ pE h2
     exact ⟨l2, r2, rfl, p2, k2⟩
  | um out =>
   have hm : out.length <= 8 := hm
   simp only [lW] at h
   split at h
   ·have g1 := Gr.name ht hp
    have p1 := (PP.refl hT).name hl
    have g0 : Gr l st (if out.length = 8 then (st.name l).fail 3 (st.now l).pos else st.name l) := by
     split
     ·exact g1.trans (.fail g1.pl (by decide))
     ·exact g1
    have p0 : PP l st (if out.length = 8 then (st.name l).fail 3 (st.now l).pos else st.name l) [] := by
     split
     ·exact .bad (p1.inv.fail (by decide) dO) (eg (by decide))
     ·exact p1
    have f0 : (if out.length = 8 then (st.name l).fail 3 (st.now l).pos else st.name l).fe = 0 -> out.length < 8 /\ (st.name l).fe = 0 := by
     split
     ·exact fun q => absurd q (eg (by decide))
     ·exact fun q => ⟨by omega, q⟩
    generalize (if out.length = 8 then (st.name l).fail 3 (st.now l).pos else st.name l) = s0 at *
    have pk := p0.kd hl
    obtain ⟨gk, _⟩ := pg ht g0.pl
    obtain ⟨q1, q2⟩ := pk.put (d := nd 24 [] (kE l s0).2 (st.cP l) (st.now l).pos) dO (fun q => by
     obtain ⟨a, _, b, c⟩ := Gi q
     have hn := mB ht hg (f0 a).2
     refine ⟨kJ (l := l) ⟨by decide, by decide⟩ ⟨fun _ => hn.1, fun _ => by decide⟩ (fun _ => hn.2) ?_, Uq (.inr (.inr rfl))⟩
     show 1 <= (kE l s0).2 /\ (kE l s0).2 <= 3
     exact ⟨b, c⟩) (fun a => rfl)
    have f1 : ((kE l s0).1.put (nd 24 [] (kE l s0).2 (st.cP l) (st.now l).pos)).fe = 0 -> out.length < 8 := fun q => (f0 (Gi (q2 q).1).1).1
    have l1 : ((kE l s0).1.put (nd 24 [] (kE l s0).2 (st.cP l) (st.now l).pos)).pos < l.length := by rw [oi]; exact gk.pl
    have kk := fun q => (q2 q).2
    clear q2;generalize (kE l s0).1.gO (nd 24 [] (kE l s0).2 (st.cP l) (st.now l).pos) = y at *
    have kk' : ((kE l s0).1.put (nd 24 [] (kE l s0).2 (st.cP l) (st.now l).pos)).fe = 0 -> dS ((kE l s0).1.put (nd 24 [] (kE l s0).2 (st.cP l) (st.now l).pos)).tree y (· = 24) := kk
    clear kk;generalize (kE l s0).1.put (nd 24 [] (kE l s0).2 (st.cP l) (st.now l).pos) = s2 at *
    split at h
    ·rename_i q
     have hn := is_lt ht l1 q
     obtain ⟨l3, r', rfl, p3, k3⟩ := ih _ _ _ _ h hn q1.inv.next (by show (out ++ [y]).length <= 8; rw [ja, List.length_singleton]; have := f1 q.1; omega)
     have q1' : PP l st s2.next [y] := q1.to q1.inv.next fun q => ⟨q, rfl⟩
     refine ⟨l3, [y] ++ r', by rw [List.append_assoc], q1'.trans p3, fun w => ⟨fun x hx => ?_, (k3 w).2⟩⟩
     rcases uy.1 hx with hx | hx
     ·rw [Ar.1 hx]
      have : dS s2.next.tree y (· = 24) := kk' q.1
      exact this.pp p3 w
     ·exact (k3 w).1 x hx
    ·obtain ⟨rfl, rfl⟩ := eM _ _ _ _ ▸ pE h
     exact ⟨l1, [y], rfl, q1, fun w => ⟨fun x hx => by rw [Ar.1 hx]; exact kk' w, by rw [ja, List.length_singleton]; have := f1 w; omega⟩⟩
   ·rename_i hf
    obtain ⟨rfl, rfl⟩ := eM _ _ _ _ ▸ pE h
    exact ⟨hp, [], by simp, .bad hT hf, fun q => absurd q hf⟩
  | func =>
   simp only [lW] at h;have g0 := Gr.want ht hp (s := Ap)
   have p0 := (PP.refl hT).want hl (s := Ap)
   generalize Xr : st.want l Ap = s0 at *
   have g1 : Gr l s0 (s0.name l) := Gr.name ht g0.pl
   have g2 : Gr l s0 ((s0.name l).want l [40]) := g1.trans (Gr.want ht g1.pl)
   have p1 := (p0.name hl).want hl (s := [40])
   have f1 : ((s0.name l).want l [40]).fe = 0 -> (s0.name l).fe = 0 := fun q => (jA q).1
   generalize rK : (s0.name l).want l [40] = KM at *
   obtain ⟨⟨s2, r2⟩, h1, h2⟩ := bind_some h
   have Vt : s2.pos < l.length /\ PP l KM s2 r2 /\ (s2.fe = 0 -> (∀ x ∈ r2, dS s2.tree x (· = 24)) /\ r2.length <= 8) := by
    split at h1
    ·obtain ⟨rfl, rfl⟩ := eM _ _ _ _ ▸ pE h1
     exact ⟨g2.pl, .refl p1.inv, fun _ => ⟨fun x hx => (by cases hx), lu _⟩⟩
    ·obtain ⟨l3, r', FA, p3, k3⟩ := ih _ _ _ _ h1 g2.pl p1.inv (lu _)
     rw [List.nil_append] at FA
     subst FA
     exact ⟨l3, p3, k3⟩
   obtain ⟨l2, p2, k2⟩ := Vt
   simp only at h2
   have gw := Gr.want ht l2 (s := [41])
   have p3 := ((p1.trans p2).want hl (s := [41])).kd hl
   obtain ⟨gk, _⟩ := pg ht gw.pl
   obtain ⟨⟨s5, r5⟩, h3, h4⟩ := bind_some h2
   obtain ⟨l5, p5, n5, k5⟩ := ih _ _ _ _ h3 gk.pl p3.inv trivial
   obtain ⟨y, rfl⟩ := je n5
   simp only [uU] at h4;obtain ⟨rfl, rfl⟩ := eM _ _ _ _ ▸ pE h4
   obtain ⟨q1, q2⟩ := (p3.trans p5).put (d := nd 25 (r2 ++ [y]) (kE l (s2.want l [41])).2 (s0.cP l) (s0.now l).pos) ⟨_, lA hl, rfl⟩ (fun q => by
    obtain ⟨a, t1, b, c⟩ := Gi (p5.grow q).1
    obtain ⟨f2, t2⟩ := jA a
    have hn := mB ht hg (f1 (p2.grow f2).1)
    refine ⟨kJ (l := l) ⟨by decide, by decide⟩ ⟨fun _ => hn.1, fun _ => by decide⟩ (fun _ => hn.2) ?_, ?_⟩
    ·show 1 <= (kE l (s2.want l [41])).2 /\ (kE l (s2.want l [41])).2 <= 3
     exact ⟨b, c⟩
    ·refine QV (fun x hx => ?_) (k2 f2).2 (k5 q y (by simp)).2.2
     have : dS (kE l (s2.want l [41])).1.tree x (· = 24) := by rw [t1, t2]; exact (k2 f2).1 x hx
     exact (this.pp p5 q).2.2) (fun a => by simp [nd])
   refine ⟨by rw [oi]; exact l5, q1, rfl, fun q => ⟨fun z hz => by rw [Ar.1 hz]; exact (q2 q).2, ?_⟩⟩
   rw [Xr];obtain ⟨a, _⟩ := Gi (p5.grow (q2 q).1).1
   exact (Cu (f1 (p2.grow (jA a).1).1)).1
  | qX out =>
   have hm : out.length <= 200 := hm
   simp only [lW] at h
   split at h
   ·rename_i qf
    have p0 : PP l st (if out.length = 200 /\ st.is l Ap then st.fail 3 (st.now l).pos else st) [] := by
     split
     ·exact .bad (hT.fail (by decide) dO) (eg (by decide))
     ·exact .refl hT
    have l0 : (if out.length = 200 /\ st.is l Ap then st.fail 3 (st.now l).pos else st).pos < l.length := by
     split
     ·rw [cU.1]; exact hp
     ·exact hp
    have n0 : out.length = 200 -> ((if out.length = 200 /\ st.is l Ap then st.fail 3 (st.now l).pos else st).want l Ap).fe ≠ 0 := by
     intro q
     by_cases w : st.is l Ap
     ·rw [if_pos ⟨q, w⟩]; exact fun a => absurd (jA a).1 (eg (by decide))
     ·rw [if_neg fun z => w z.2]
      unfold RS.want; rw [if_neg w]; exact eg (by decide)
    generalize (if out.length = 200 /\ st.is l Ap then st.fail 3 (st.now l).pos else st) = s0 at *
    obtain ⟨⟨s2, r2⟩, h1, h2⟩ := bind_some h
    obtain ⟨l2, p2, n2, k2⟩ := ih _ _ _ _ h1 l0 p0.inv trivial
    have bt : s2.fe = 0 -> out.length < 200 := by
     intro q
     refine BP fun w => n0 (by omega) ?_
     exact (k2 q).2
    obtain ⟨y, rfl⟩ := je n2
    simp only at h2
    split at h2
    ·rename_i q
     obtain ⟨l3, r', rfl, p3, k3⟩ := ih _ _ _ _ h2 l2 p2.inv (by show (out ++ [y]).length <= 200; rw [ja, List.length_singleton]; have := bt q; omega)
     refine ⟨l3, [y] ++ r', by rw [List.append_assoc], p0.trans (p2.trans p3), fun w => ⟨fun x hx => ?_, (k3 w).2⟩⟩
     rcases uy.1 hx with hx | hx
     ·exact ((k2 q).1 x hx).pp p3 w
     ·exact (k3 w).1 x hx
    ·rename_i q
     obtain ⟨rfl, rfl⟩ := eM _ _ _ _ ▸ pE h2
     exact ⟨l2, [y], rfl, p0.trans p2, fun w => absurd w q⟩
   ·obtain ⟨rfl, rfl⟩ := eM _ _ _ _ ▸ pE h
    exact ⟨hp, [], by simp, .refl hT, fun _ => ⟨fun x hx => (by cases hx), hm⟩⟩
end
section
def GP (l : List Nd) : Prop := D5 l /\ kindOf l ((l.length - 1 : Nat) : Int) = 26
theorem Ta {l : List Nd} (h : 0 < l.length) : ∃ d, l[l.length - 1]? = some d /\ kindOf l ((l.length - 1 : Nat) : Int) = d.kind := by
 have hd : l[l.length - 1]? = some l[l.length - 1] := mZ (by omega)
 refine ⟨_, hd, ?_⟩
 unfold kindOf;rw [show (((l.length - 1 : Nat) : Int)).toNat = l.length - 1 by omega, hd]; rfl
theorem Oc {l : List Nd} {t : Nat} {nl : Bool} (hs : Small l) : bA B K uO [row nl t 5 (qS l)] = some (bo (GP l)) := by
 have hlen := hs.len
 rw [dQ (by simp [gW])]
 have e := fun t nl => Qf (t := t) (nl := nl) hs
 unfold GP;by_cases h : D5 l
 ·have hw : IntKind.i64.wrap ((l.length : Int) - 1) = ((l.length - 1 : Nat) : Int) := by have := h.2.1; rw [wrap_i64 (by omega) (by omega)]; omega
  obtain ⟨d, hd, hk⟩ := Ta h.2.1
  have hi : idx l.length (.int .i64 ((l.length - 1 : Nat) : Int)) = some (l.length - 1) := bJ (by have := h.2.1; omega)
  simp +contextual -implicitDefEqProofs (maxSteps := 1000000) (maxDischargeDepth := 8) only [gW, e, h, hw, hk, hi, hd, lB, jf, Nd.cells, fY, aq, aa, implies_true, simprocAttr]
 ·simp +contextual -implicitDefEqProofs (maxSteps := 1000000) (maxDischargeDepth := 8) only [gW, e, h, fA, aq, aa, implies_true, simprocAttr]
end
section
theorem TI.mono {l l' : List Tok} {st : RS} (h : TI l st) (hs : ∀ t ∈ l, t ∈ l') : TI l' st :=
 ⟨fun q => ⟨(h.t q).lt, (h.t q).hl, (h.t q).hh⟩, fun q => by obtain ⟨t, a, b⟩ := h.f q; exact ⟨t, hs t a, b⟩⟩
theorem PP.mono {l l' : List Tok} {st s1 : RS} {r : List Int} (h : PP l st s1 r) (hs : ∀ t ∈ l, t ∈ l') : PP l' st s1 r := by
 refine ⟨h.inv.mono hs, fun q => ?_⟩
 obtain ⟨a, new, b, c, d⟩ := h.ok q
 exact ⟨a, new, b, fun e he => ⟨(c e he).own, (c e he).kids, by obtain ⟨t, x, y⟩ := (c e he).pos; exact ⟨t, hs t x, y⟩⟩, d⟩
theorem PY {l : List Tok} : TI l .start := ⟨fun _ => ⟨fun i d h => absurd h (by simp [RS.start]), rfl, fun i h => absurd h (by simp [RS.start])⟩, fun q => absurd rfl q⟩
structure Prg (l : List Tok) (s : RS) : Prop where
 whole : GP s.tree
 pos : ∀ d ∈ s.tree, d.pos = 0 \/ ∃ t ∈ l, d.pos = (t.pos : Int)
 small : s.tree.length <= l.length
theorem SX {l : List Tok} (ht : bS l) (hg : ∀ t ∈ l, t.kind = 1 -> t.text ≠ [] /\ nj t.text) : ((oY l).fe = 0 -> Prg l (oY l)) /\ ((oY l).fe ≠ 0 -> (oY l).fp = 0 \/ ∃ t ∈ l, (oY l).fp = (t.pos : Int)) := by
 have hk : 8 * (l.length - RS.start.pos) + (PC.qX []).bg < 8 * l.length + 5 := by simp only [RS.start, PC.bg]; omega
 obtain ⟨s1, r, e, g, ar, _⟩ := kP ht (8 * l.length + 5) (.qX []) .start (uC ht).p hk (lu _)
 have o1 := g.ok (uC ht)
 obtain ⟨_, r', FA, pp, kk⟩ := VU ht hg _ _ _ _ _ e ht.pos PY (lu _)
 rw [List.nil_append] at FA
 subst FA
 have hpf : oY l = s1.put (nd 26 r 0 [] 0) := by unfold oY; rw [e]
 rw [hpf];obtain ⟨q1, q2⟩ := (pp.mono (l' := ⟨0, [], 0, 0⟩ :: l) fun t h => As _ h).put (d := nd 26 r 0 [] 0) ⟨⟨0, [], 0, 0⟩, by simp, rfl⟩ (fun q => ⟨kJ (l := l) (p := 0) ⟨by decide, by decide⟩ (by decide) (fun q => absurd rfl q) rfl, OI (fun x hx => ((kk q).1 x hx).2.2) (kk q).2⟩) (fun a => rfl)
 have pos' : ∀ {x : Int}, (∃ t ∈ (⟨0, [], 0, 0⟩ : Tok) :: l, x = (t.pos : Int)) -> x = 0 \/ ∃ t ∈ l, x = (t.pos : Int) := by
  rintro x ⟨t, h1, h2⟩
  rcases oQ.1 h1 with rfl | h1
  ·exact .inl h2
  ·exact .inr ⟨t, h1, h2⟩
 refine ⟨fun q => ?_, fun q => pos' (q1.inv.f q)⟩
 have q0 : (s1.nh (nd 26 r 0 [] 0)).fe = 0 := BP fun w => by
  unfold RS.put at q; rw [if_neg w] at q; exact w q
 have hR : s1.gO (nd 26 r 0 [] 0) = (s1.tree.length : Int) := if_pos q0
 have hT : (s1.put (nd 26 r 0 [] 0)).tree = s1.tree ++ [nd 26 r 0 [] 0] := by unfold RS.put; rw [if_pos q0]
 have hH : ∀ x ∈ (s1.put (nd 26 r 0 [] 0)).high, x <= 200 := by
  unfold RS.put; rw [if_pos q0]
  intro x hx
  rcases uy.1 hx with hx | hx
  ·have : (s1.nh (nd 26 r 0 [] 0)).high = s1.high := by
    unfold RS.nh; split
    ·exact cU.2.2.2
    ·rfl
   exact o1.h x hx
  ·rw [Ar.1 hx]
   unfold RS.nh at q0
   split at q0
   ·exact absurd q0 (eg (by decide))
   ·omega
 obtain ⟨_, new, hn, dn, hc⟩ := q1.ok q
 have tr := q1.inv.t q
 have kx := (q2 q).2
 rw [hR] at hc kx;have hlen : (s1.put (nd 26 r 0 [] 0)).tree.length = s1.tree.length + 1 := by rw [hT, ja]; rfl
 generalize s1.put (nd 26 r 0 [] 0) = s2 at *
 simp only [RS.start, List.nil_append] at hn;have hc : ∀ a, EQ s2.tree a + [(s1.tree.length : Int)].count a = Jo 0 s2.tree.length a := fun a => by
  have := hc a; rw [<- hn] at this; exact this
 have perm : (gM s2.tree ++ [(s1.tree.length : Int)]).Perm ((List.range s2.tree.length).map (fun i : Nat => (i : Int))) := List.perm_iff_count.2 fun a => by
  rw [List.count_append, count_range]; exact hc a
 have Sw := perm.length_eq
 rw [ja, List.length_singleton, List.length_map, List.length_range] at Sw;have hnd : (gM s2.tree).Nodup := by
  have h1 : ((List.range s2.tree.length).map (fun i : Nat => (i : Int))).Nodup := List.pairwise_map.2 ((List.nodup_range (n := s2.tree.length)).imp fun h q => h (by omega))
  exact (List.nodup_append.1 (perm.nodup_iff.2 h1)).1
 have dn : ∀ d ∈ s2.tree, Ig (⟨0, [], 0, 0⟩ :: l) s2.tree d := by rw [hn] at dn ⊢; exact dn
 refine ⟨⟨⟨⟨tr.lt, hnd, fun d hd => ⟨(dn d hd).own, (dn d hd).kids⟩⟩, by omega, by omega, ?_⟩, ?_⟩, fun d hd => pos' (dn d hd).pos, ?_⟩
 ·exact hH _ (List.mem_of_getElem? (tr.hh (s2.tree.length - 1) (by omega)))
 ·have := kx.2.2
  rw [hlen, Nat.add_sub_cancel]; exact this
 ·have := o1.t; have := o1.p; omega
theorem Prg.sm {l : List Tok} {s : RS} (h : Prg l s) (hl : l.length < 100000) : Small s.tree where
 len := by have := h.small; omega
 kids d hd := by
  have h1 := (Jf hd).length_le
  have h2 := h.whole.1.2.2.1
  have := h.small; omega
 s d hd := by
  by_cases q : d.s = []
  ·rw [q]; decide
  ·have := (h.whole.1.1.2.2 d hd).1.2.1
   have hn : nj d.s := BP fun w => this ⟨q, w⟩
   have := hn.2.2.1; omega
end
section
def Sa (m : Mem) : Prop := ∀ b cs e t ro, m.get b = .cells cs e t ro -> b < m.next
theorem in_live {n0 : Nat} {bs : List ul} (hl : (∀ p ∈ globs, p.1 < n0) /\ ∀ g l, tabl g = some l -> g < n0) : Sa (gG n0 bs) := by
 intro b cs e t ro h
 refine BP fun q => ?_
 have : (gG n0 bs).next = n0 + bs.length := rfl
 rw [En hl (by omega)] at h
 cases h
end
section
open Go Go.Deep
def GFact (w : World) (g : Nat) (l : List (List UInt8)) : Prop :=
 ∃ (arr : Array Value) (e : TypeId) (fz : Nat × Nat) (c9 off cap : Nat) (E2 : Array Value) (e2 : TypeId) (X4 : Nat × Nat),
  w.heap[g]? = some (.cells arr e fz) /\ arr.toList = [.slice (some ⟨c9, off, none⟩) l.length cap] /\ l.length <= cap /\
  w.heap[c9]? = some (.cells E2 e2 X4) /\ off + l.length <= E2.size /\ ∀ (j : Nat) (s : List UInt8), l[j]? = some s -> ∃ b, E2[off + j]? = some (.string b) /\ b.data.toList = s
theorem gfact_of {H : Type} {enc : TypeId × Value -> H} {P : Program} {w : World} {base : Nat} {sp : Nat -> Bool} {held : Bool} {g : Nat} {t e : TypeId} {name : String} {l : List (List UInt8)} {fuel : Nat} {p : List MemPlace} {cs : Array Value} {D : DataW H} (iQ : l ≠ []) (hD : D = .slice (l.map fun s => .lit (.string s)) [])
  (hg : P.globalNamed name = some g) (ht : P.underlying t = some (.slice e)) (hc : P.cellsOf e = 1) (he : P.underlying e = some .string) (hv : w.var? P name = some cs)
  (hd : DataW.trod enc P w base sp held fuel t cs.toList = some (D, p)) : GFact w g l := by
 subst hD;obtain ⟨a, cap, h1, h2, h3⟩ := open_row ht hc hd
 rw [List.length_map] at h1 h2;have Jz : ∀ i s, l[i]? = some s -> ∃ b, w.cell? (a.add i) = some (.string b) /\ b.data.toList = s := by
  intro i s hs
  obtain ⟨v, n, q, hv1, Vo⟩ := h3 i (.lit (.string s)) (by rw [List.getElem?_map, hs]; rfl)
  obtain ⟨b, hb, hx, _⟩ := DataW.trod_string he Vo
  simp only [List.cons.injEq, and_true] at hb;subst hb;refine ⟨b, hv1, ?_⟩
  simp only [eM, DataW.lit.injEq, Lit.string.injEq] at hx;exact hx.1.symm
 have dO : 0 < l.length := List.length_pos_iff.2 iQ
 obtain ⟨c9, off, E2, e2, X4, rfl, rM⟩ : ∃ c9 off arr ty fz, a = ⟨c9, off, none⟩ /\ w.heap[c9]? = some (.cells arr ty fz) := by
  obtain ⟨b, hv, _⟩ := Jz 0 l[0] (mZ dO)
  have hv : w.cell? a = some (.string b) := hv
  obtain ⟨c9, off, spot⟩ := a
  unfold World.cell? at hv
  split at hv
  ·rename_i c t z hh
   cases spot with
   | none => exact ⟨c9, off, c, t, z, rfl, hh⟩
   | some x => simp at hv
  ·cases hv
 have PD : ∀ n, w.cell? ⟨c9, off + n, none⟩ = E2[off + n]? := fun n => by unfold World.cell?; simp [rM]
 have lM : ∀ (j : Nat) (s : List UInt8), l[j]? = some s -> ∃ b, E2[off + j]? = some (.string b) /\ b.data.toList = s := by
  intro j s hs
  obtain ⟨b, hb, hbs⟩ := Jz j s hs
  rw [Cy, PD] at hb;exact ⟨b, hb, hbs⟩
 have hle : off + l.length <= E2.size := by
  obtain ⟨b, hb, _⟩ := lM (l.length - 1) _ (mZ (by omega))
  have := (Array.getElem?_eq_some_iff.1 hb).1
  omega
 unfold World.var? at hv
 rw [hg] at hv;simp only [Option.bind_some] at hv
 split at hv
 ·rename_i c t' z hh
  cases hv
  exact ⟨_, _, _, c9, off, cap, E2, e2, X4, hh, h1, h2, rM, hle, lM⟩
 ·cases hv
def adp (w : World) (g : Nat) (l : List (List UInt8)) (B : ul) : Prop := B.cs = l.map .str /\ B.esz = 1 /\
 (∃ (arr : Array Value) (e : TypeId) (fz : Nat × Nat) (cap : Nat), w.heap[g]? = some (.cells arr e fz) /\ arr.toList = [.slice (some ⟨B.c9, B.off, none⟩) l.length cap] /\ l.length <= cap) /\
 ∃ (arr : Array Value) (e : TypeId) (fz : Nat × Nat), w.heap[B.c9]? = some (.cells arr e fz) /\ arr.size = B.total /\ B.off + l.length <= B.total /\ ∀ (j : Nat) (s : List UInt8), l[j]? = some s -> ∃ b, arr[B.off + j]? = some (.string b) /\ b.data.toList = s
theorem UN {w : World} : ∀ gs : List (Nat × List (List UInt8)), (∀ p ∈ gs, GFact w p.1 p.2) -> ∃ bk : List ul, bk.length = gs.length /\ ∀ (j g : Nat) (l : List (List UInt8)), gs[j]? = some (g, l) -> ∃ B, bk[j]? = some B /\ adp w g l B
 | [], _ => ⟨[], rfl, fun j g l h => by simp at h⟩
 | (g, l) :: gs, h => by
  obtain ⟨bk, h1, h2⟩ := UN gs fun p hp => h p (by simp [hp])
  obtain ⟨arr, e, fz, c9, off, cap, E2, e2, X4, a1, a2, a3, a4, a5, a6⟩ := h (g, l) (by simp)
  refine ⟨⟨c9, off, E2.size, 1, l.map .str⟩ :: bk, by simp [h1], fun j g' l' hj => ?_⟩
  cases j with
  | zero =>
   simp only [List.getElem?_cons_zero, bc, eM] at hj;obtain ⟨rfl, rfl⟩ := hj
   exact ⟨_, rfl, rfl, rfl, ⟨arr, e, fz, cap, a1, a2, a3⟩, E2, e2, X4, a4, rfl, a5, a6⟩
  | succ j => exact h2 j g' l' (by simpa using hj)
theorem args_card {w : World} {n0 : Nat} {j7 : List Sh} {vs : List Value} (hg : (∀ p ∈ globs, GFact w p.1 p.2) /\ ∀ g l, tabl g = some l -> TFact w g l) (hl : (∀ p ∈ globs, p.1 < n0) /\ ∀ g l, tabl g = some l -> g < n0) (h : DecVs w n0 j7 vs) :
  ∃ (bs : List ul) (es : List EV) (ds : List Dt), V6 w n0 bs /\ Ii w n0 bs /\ ft (ka n0 bs) es vs /\ sa (gG n0 bs) j7 es ds := by
 obtain ⟨bk, AP, Ru⟩ := UN globs hg.1
 obtain ⟨k, ds, h⟩ := h
 obtain ⟨es, bs, h1, h2⟩ := h bk.length
 obtain ⟨c1, c2, c3⟩ := h2 (bk ++ bs) (fun i _ => by rw [BO (by omega)]; congr 1; omega)
 refine ⟨bk ++ bs, es, ds, fun i B hB => ?_, ⟨hl, hg.2, fun j g l hj => ?_⟩, c1, c3⟩
 ·by_cases hi : i < bk.length
  ·rw [A9 hi] at hB
   obtain ⟨⟨g, l⟩, Rq⟩ : ∃ p, globs[i]? = some p := ⟨_, mZ (by omega)⟩
   obtain ⟨B', TB, q1, q2, q3, arr, e, fz, q4, q5, q6, q7⟩ := Ru i g l Rq
   rw [hB] at TB; cases TB
   refine ⟨arr, e, fz, q4, q5, by rw [q1, List.length_map]; exact q6, fun j v hj => ?_⟩
   rw [q1, List.getElem?_map] at hj;obtain ⟨s, hs, rfl⟩ := j6.1 hj
   obtain ⟨b, hb, rfl⟩ := q7 j s hs
   exact ⟨_, hb, .str _, rfl⟩
  ·rw [BO (by omega)] at hB
   exact c2 _ B hB
 ·obtain ⟨B, hB, q1, q2, ⟨arr, e, fz, cap, q3, q4, q5⟩, _⟩ := Ru j g l hj
  have bt := (rc.1 hB).1
  have TB : (bk ++ bs)[j]? = some B := by rw [A9 bt]; exact hB
  have uf : arr.size = 1 := by rw [<- Array.length_toList, q4]; rfl
  exact ⟨⟨arr, e, fz, _, q3, uf, by rw [<- Array.getElem?_toList, q4]; rfl, Jk TB rfl rfl q5 fun _ => rfl, rfl⟩, B, TB, q1, q2⟩
theorem KE (l : List (List UInt8)) : (kZ l).flatten = l.map .str := by
 induction l with
 | nil => rfl
 | cons s l ih => show (([EV.str s] :: kZ l).flatten) = _; rw [List.flatten_cons, ih]; rfl
theorem glob_still {w : World} {n0 : Nat} {bs : List ul} (h : Ii w n0 bs) : mJ (still (gG n0 bs)) := by
 refine ⟨fun g l hg => ?_, fun g l hg => ?_⟩
 case refine_2 =>
  have bt := h.1.2 g l hg
  have hn : (gG n0 bs).next = n0 + bs.length := rfl
  show (if g < (gG n0 bs).next then some ((gG n0 bs).get g) else none) = _
  rw [if_pos (by rw [hn]; omega), AL bt]
  have hf := tl (b := g) globs 0
  have hgn := (h.2.1 g l hg).1
  unfold FI at hgn;rw [hgn] at hf;rw [Option.map_eq_none_iff.1 hf, hg]
  rfl
 have hf := tl (b := g) globs 0
 unfold FI at hg;rw [hg] at hf;obtain ⟨⟨p, l'⟩, hp, zk⟩ := j6.1 hf
 simp only at zk
 subst zk
 have h2 := (zo _ _ hp).2
 rw [Nat.sub_zero] at h2;have bt := h.1.1 _ (List.mem_of_getElem? h2)
 obtain ⟨_, B, hB, q1, q2⟩ := h.2.2 p g l' h2
 have m1 : (gG n0 bs).get g = .cells [.slice (n0 + p) 0 l'.length none] 1 0 true := by rw [AL bt, hp]; rfl
 have m2 : (gG n0 bs).get (n0 + p) = .cells (l'.map .str) 1 0 true := by rw [Eo hB, q1, q2]
 have HA := (rc.1 hB).1
 have hn : (gG n0 bs).next = n0 + bs.length := rfl
 have s1 : (still (gG n0 bs)).gN g = some (.cells [.slice (n0 + p) 0 l'.length none] 1 0 true) := by
  show (if g < (gG n0 bs).next then some ((gG n0 bs).get g) else none) = _
  rw [if_pos (by rw [hn]; omega), m1]
 have s2 : (still (gG n0 bs)).gN (n0 + p) = some (.cells (l'.map .str) 1 0 true) := by
  show (if n0 + p < (gG n0 bs).next then some ((gG n0 bs).get (n0 + p)) else none) = _
  rw [if_pos (by rw [hn]; omega), m2]
 have self : ∀ (θ : cD) (x : List (List UInt8)), dP θ (x.map .str) (x.map .str) := fun θ x => by
  induction x with
  | nil => exact .nil
  | cons s x ih => exact .cons (.str s) ih
 have hlen : (kZ l').length = l'.length := by simp [kZ]
 refine .fF (.mk (off := 0) s1 (by simp) (by simp) (.cons ?_ .nil)) (by simp) (by simp)
 have := SV.fz (θ := (still (gG n0 bs)).low) (t := 0) (esz := 1) (els := kZ l') (b := n0 + p) (off := 0) (cap := none) (.mk s2 (by simp [kZ]) (by simp [hlen]) (by
  rw [KE, List.drop_zero, hlen, Nat.mul_one, Ij (by simp)]; exact self _ l')) (.inl rfl) (fun c hc => by cases hc)
 rw [hlen] at this;exact this
end
section
def zX (k : Nat) : Nat := if k = 0 then 96 else if k = 1 then 6 else 198
def RU (k : Nat) : Nat := if k = 0 then 98 else if k = 1 then 8 else 200
def Bq (k : Nat) : Int := if k = 0 then 4 else 3
theorem X8 {k j : Nat} (hk : k < 3) (hj : j < 4) : RL (ml k (zX k + j)) = if zX k + j <= RU k then 0 else Bq k := by
 have d1 := VZ
 simp only [eM] at d1;obtain rfl | rfl | rfl : k = 0 \/ k = 1 \/ k = 2 := by omega
 ·obtain rfl | rfl | rfl | rfl : j = 0 \/ j = 1 \/ j = 2 \/ j = 3 := by omega
  ·exact Pc
  ·exact Pb
  ·exact Pa
  ·exact O9
 ·obtain rfl | rfl | rfl | rfl : j = 0 \/ j = 1 \/ j = 2 \/ j = 3 := by omega
  ·exact d1.1
  ·exact d1.2.1
  ·exact d1.2.2.1
  ·exact d1.2.2.2
 ·obtain ⟨l, h1, h2⟩ := Ql (n := 198 + j) (by omega)
  have e : ml 2 (zX 2 + j) = uc (198 + j) GS := List.append_nil _
  unfold RL;rw [e, h1];exact h2
theorem jO {a b c : List UInt8} (h : a.length + b.length <= 4294967296) (e : a ++ b = c) : ef .add (.str a) (.str b) = some (.str c) := by rw [TX, A8 h, e]; rfl
theorem TR {n : Nat} {s0 : bZ} (hs : s0.length < 100) (hn : n < 1000) {fr : Fr} {m0 : Mem} (h5 : fr.get 5 = .str s0) (h6 : fr.get 6 = .str [125]) (h9 : fr.get 9 = .int .i64 (n : Int)) (zm : fr.get 10 = .int .i64 0) (hd : fr.defers = []) :
  ∃ o, exec U (.loop eL) fr m0 = some o /\ ∃ fr', o = .exit 3 fr' m0 /\ fr'.get 5 = .str (s0 ++ uc n Sg) /\ fr'.get 6 = .str (125 :: uc n [125]) /\ fr'.get 9 = fr.get 9 /\ fr'.get 7 = fr.get 7 /\ fr'.get 8 = fr.get 8 /\ fr'.defers = [] := by
 refine ia (σ := Nat) (fun j f m => m = m0 /\ j <= n /\ f.get 5 = .str (s0 ++ uc j Sg) /\ f.get 6 = .str (125 :: uc j [125]) /\ f.get 9 = .int .i64 (n : Int) /\ f.get 10 = .int .i64 (j : Int) /\ f.get 7 = fr.get 7 /\ f.get 8 = fr.get 8 /\ f.defers = []) (fun j => n - j) _ ?_ 0 fr m0
  ⟨rfl, lu _, by rw [h5]; simp [uc], by rw [h6]; rfl, h9, zm, rfl, rfl, hd⟩
 rintro j f m ⟨rfl, hj, h5, h6, k9, zm, k7, k8, hd⟩
 generalize hX : exec U eL f m = X
 by_cases bt : j < n
 ·have hc : (j : Int) < (n : Int) := by omega
  have hw := cx (i := j) (by omega)
  have c1 := jO (a := s0 ++ uc j Sg) (b := [105, 102, 32, 97, 32, 123]) (c := s0 ++ uc (j + 1) Sg) (by rw [ja, pY]; simp [Sg]; omega) (by rw [D6, List.append_assoc]; rfl)
  have c2 := jO (a := 125 :: uc j [125]) (b := [125]) (c := 125 :: uc (j + 1) [125]) (by rw [List.length_cons, pY]; simp; omega) (by rw [D6]; rfl)
  simp +contextual -implicitDefEqProofs (maxSteps := 1000000) (maxDischargeDepth := 8) only [eL, h5, h6, k9, zm, hd, hc, hw, c1, c2, aq, aa, implies_true, simprocAttr] at hX
  subst hX;exact et (j + 1) (by omega) ⟨rfl, by omega, by simp only [ap, Nat.reduceBEq ], by simp only [ap, Nat.reduceBEq ], by simp only [k9, ap, Nat.reduceBEq ], by simp only [ap, Nat.reduceBEq ], by simp only [k7, ap, Nat.reduceBEq ], by simp only [k8, ap, Nat.reduceBEq ], by simp only [hd, ap, Nat.reduceBEq ]⟩
 ·have hc : ¬ (j : Int) < (n : Int) := by omega
  obtain rfl : j = n := by omega
  simp +contextual -implicitDefEqProofs (maxSteps := 1000000) (maxDischargeDepth := 8) only [eL, k9, zm, hd, hc, aq, aa, implies_true, simprocAttr] at hX
  subst hX;exact fi ⟨_, rfl, by simp only [h5, ap, Nat.reduceBEq ], by simp only [h6, ap, Nat.reduceBEq ], by simp only [k9, h9, ap, Nat.reduceBEq ], by simp only [k7, ap, Nat.reduceBEq ], by simp only [k8, ap, Nat.reduceBEq ], by simp only [hd, ap, Nat.reduceBEq ]⟩
theorem yL : ∀ n, (sW n).length <= 6 * n
 | 0 => fh _
 | n + 1 => by
  have := yL n
  rw [sW]
  split <;> simp <;> omega
theorem TQ {n : Nat} {s0 : bZ} (hs : s0.length < 100) (hn : n < 1000) {fr : Fr} {m0 : Mem} (h5 : fr.get 5 = .str s0) (h9 : fr.get 9 = .int .i64 (n : Int)) (CG : fr.get 11 = .int .i64 0) (hd : fr.defers = []) :
  ∃ o, exec U (.loop dW) fr m0 = some o /\ ∃ fr', o = .exit 5 fr' m0 /\ fr'.get 5 = .str (s0 ++ sW n) /\ fr'.get 6 = fr.get 6 /\ fr'.get 9 = fr.get 9 /\ fr'.get 7 = fr.get 7 /\ fr'.get 8 = fr.get 8 /\ fr'.defers = [] := by
 refine ia (σ := Nat) (fun j f m => m = m0 /\ j <= n /\ f.get 5 = .str (s0 ++ sW j) /\ f.get 6 = fr.get 6 /\ f.get 9 = .int .i64 (n : Int) /\ f.get 11 = .int .i64 (j : Int) /\ f.get 7 = fr.get 7 /\ f.get 8 = fr.get 8 /\ f.defers = []) (fun j => n - j) _ ?_ 0 fr m0
  ⟨rfl, lu _, by rw [h5]; simp [sW], rfl, h9, CG, rfl, rfl, hd⟩
 rintro j f m ⟨rfl, hj, h5, k6, k9, CG, k7, k8, hd⟩
 generalize hX : exec U dW f m = X
 by_cases bt : j < n
 ·have hc : (j : Int) < (n : Int) := by omega
  have hw := cx (i := j) (by omega)
  have hl := yL j
  cases j with
  | zero =>
   have c1 := jO (a := s0 ++ sW 0) (b := [97, 32, 105, 110, 116]) (c := s0 ++ sW 1) (by rw [ja]; simp; omega) (by rw [List.append_assoc]; rfl)
   have HD : (0 : Int) < (n : Int) := by omega
   have hw0 : IntKind.i64.wrap 1 = 1 := rfl
   simp +contextual -implicitDefEqProofs (maxSteps := 1000000) (maxDischargeDepth := 8) only [dW, h5, k9, CG, hd, HD, hw0, c1, aq, aa, implies_true, simprocAttr] at hX
   subst hX;exact et (0 + 1 : Nat) (by omega) ⟨rfl, by omega, by simp only [ap, Nat.reduceBEq ], by simp only [k6, ap, Nat.reduceBEq ], by simp only [k9, ap, Nat.reduceBEq ], by simp only [ap, Nat.reduceBEq ]; rfl, by simp only [k7, ap, Nat.reduceBEq ], by simp only [k8, ap, Nat.reduceBEq ], by simp only [hd, ap, Nat.reduceBEq ]⟩
  | succ j =>
   have c1 := jO (a := s0 ++ sW (j + 1)) (b := [44]) rfl (c := s0 ++ sW (j + 1) ++ [44]) (h := by rw [ja]; simp; omega)
   have c2 := jO (a := s0 ++ sW (j + 1) ++ [44]) (b := [97, 32, 105, 110, 116]) (c := s0 ++ sW (j + 1 + 1)) (by rw [ja, ja]; simp; omega) (by
    have e : sW (j + 1 + 1) = (sW (j + 1) ++ [44]) ++ [97, 32, 105, 110, 116] := rfl
    rw [e]; simp only [List.append_assoc])
   have z : (0 : Int) < ((j + 1 : Nat) : Int) := by omega
   simp +contextual -implicitDefEqProofs (maxSteps := 1000000) (maxDischargeDepth := 8) only [dW, h5, k9, CG, hd, hc, hw, c1, c2, z, aq, aa, implies_true, simprocAttr] at hX
   subst hX;exact et (j + 1 + 1) (by omega) ⟨rfl, by omega, by simp only [ap, Nat.reduceBEq ], by simp only [k6, ap, Nat.reduceBEq ], by simp only [k9, ap, Nat.reduceBEq ], by simp only [ap, Nat.reduceBEq ], by simp only [k7, ap, Nat.reduceBEq ], by simp only [k8, ap, Nat.reduceBEq ], by simp only [hd, ap, Nat.reduceBEq ]⟩
 ·have hc : ¬ (j : Int) < (n : Int) := by omega
  obtain rfl : j = n := by omega
  simp +contextual -implicitDefEqProofs (maxSteps := 1000000) (maxDischargeDepth := 8) only [dW, k9, CG, hd, hc, aq, aa, implies_true, simprocAttr] at hX
  subst hX;exact fi ⟨_, rfl, by simp only [h5, ap, Nat.reduceBEq ], by simp only [k6, ap, Nat.reduceBEq ], by simp only [k9, h9, ap, Nat.reduceBEq ], by simp only [k7, ap, Nat.reduceBEq ], by simp only [k8, ap, Nat.reduceBEq ], by simp only [hd, ap, Nat.reduceBEq ]⟩
theorem TP {n : Nat} (hn : n < 1000) {fr : Fr} {m0 : Mem} (h5 : fr.get 5 = .str []) (h9 : fr.get 9 = .int .i64 (n : Int)) (FH : fr.get 12 = .int .i64 0) (hd : fr.defers = []) :
  ∃ o, exec U (.loop eK) fr m0 = some o /\ ∃ fr', o = .exit 1 fr' m0 /\ fr'.get 5 = .str (uc n GS) /\ fr'.get 6 = fr.get 6 /\ fr'.get 9 = fr.get 9 /\ fr'.get 7 = fr.get 7 /\ fr'.get 8 = fr.get 8 /\ fr'.defers = [] := by
 refine ia (σ := Nat) (fun j f m => m = m0 /\ j <= n /\ f.get 5 = .str (uc j GS) /\ f.get 6 = fr.get 6 /\ f.get 9 = .int .i64 (n : Int) /\ f.get 12 = .int .i64 (j : Int) /\ f.get 7 = fr.get 7 /\ f.get 8 = fr.get 8 /\ f.defers = []) (fun j => n - j) _ ?_ 0 fr m0
  ⟨rfl, lu _, by rw [h5]; rfl, rfl, h9, FH, rfl, rfl, hd⟩
 rintro j f m ⟨rfl, hj, h5, k6, k9, FH, k7, k8, hd⟩
 generalize hX : exec U eK f m = X
 by_cases bt : j < n
 ·have hc : (j : Int) < (n : Int) := by omega
  have hw := cx (i := j) (by omega)
  have c1 := jO (a := uc j GS) (b := [102, 110, 32, 102, 40, 41, 32, 105, 110, 116, 32, 123, 125]) (c := uc (j + 1) GS) (by rw [pY]; simp [GS]; omega) (by rw [D6]; rfl)
  simp +contextual -implicitDefEqProofs (maxSteps := 1000000) (maxDischargeDepth := 8) only [eK, h5, k9, FH, hd, hc, hw, c1, aq, aa, implies_true, simprocAttr] at hX
  subst hX;exact et (j + 1) (by omega) ⟨rfl, by omega, by simp only [ap, Nat.reduceBEq ], by simp only [k6, ap, Nat.reduceBEq ], by simp only [k9, ap, Nat.reduceBEq ], by simp only [ap, Nat.reduceBEq ], by simp only [k7, ap, Nat.reduceBEq ], by simp only [k8, ap, Nat.reduceBEq ], by simp only [hd, ap, Nat.reduceBEq ]⟩
 ·have hc : ¬ (j : Int) < (n : Int) := by omega
  obtain rfl : j = n := by omega
  simp +contextual -implicitDefEqProofs (maxSteps := 1000000) (maxDischargeDepth := 8) only [eK, k9, FH, hd, hc, aq, aa, implies_true, simprocAttr] at hX
  subst hX;exact fi ⟨_, rfl, by simp only [h5, ap, Nat.reduceBEq ], by simp only [k6, ap, Nat.reduceBEq ], by simp only [k9, h9, ap, Nat.reduceBEq ], by simp only [k7, ap, Nat.reduceBEq ], by simp only [k8, ap, Nat.reduceBEq ], by simp only [hd, ap, Nat.reduceBEq ]⟩
end
section
theorem Pd {k n : Nat} (hk : k < 3) (hn : n < 300) : (ml k n).length < 90000 := by
 have := yL n
 obtain rfl | rfl | rfl : k = 0 \/ k = 1 \/ k = 2 := by omega
 ·show ((Kr ++ NZ ++ uc n Sg) ++ (125 :: uc n [125])).length < _
  simp only [ja, List.length_cons, pY]; simp [Kr, NZ, Sg]; omega
 ·show (((Kr ++ sW n) ++ NZ) ++ [125]).length < _
  simp only [ja, List.length_cons]; simp [Kr, NZ]; omega
 ·show (uc n GS ++ []).length < _
  simp only [ja, pY]; simp [GS]; omega
theorem xV {k j n : Nat} (hk : k < 3) (hj : j < 4) (hn : n = zX k + j) : (n <= RU k -> ∃ tr, bA B K qU [.str (ml k n)] = some (.tuple [.fz 0 5 (qS tr), .agg [.int .i64 0, .int .i64 0]]) /\ bA B K uO [.fz 1 5 (qS tr)] = some (.bool true)) /\
  (¬ n <= RU k -> ∃ p, bA B K qU [.str (ml k n)] = some (.tuple [.ae, .agg [.int .i64 (Bq k), .int .i64 p]])) := by
 subst hn;have hB : zX k <= 198 := by unfold zX; split <;> (try split) <;> omega
 have hln := Pd (k := k) (n := zX k + j) hk (by omega)
 have Es := Oh (s := ml k (zX k + j)) (by omega) (fun l h => (Jd h).1) (fun e p h => S9 h)
 have im := X8 hk hj
 have hE : Bq k = 3 \/ Bq k = 4 := by unfold Bq; split <;> simp
 unfold KV at Es;unfold RL at im
 cases hx : uS (ml k (zX k + j)) with
 | bad e p =>
  rw [hx] at im;simp only at im
  split at im <;> omega
 | ok l =>
  obtain ⟨ht, hg, Wy⟩ := Jd hx
  rw [hx] at im Es;simp only at im Es
  obtain ⟨pa, pb⟩ := SX ht hg
  unfold Ms at Es
  constructor
  ·intro hle
   rw [if_pos hle] at im;rw [if_pos im] at Es;have hP := pa im
   have hw : bA B K uO [.fz 1 5 (qS (oY l).tree)] = some (bo (GP (oY l).tree)) := Oc (nl := false) (hP.sm (by omega))
   rw [eB hP.whole] at hw;exact ⟨_, Es, hw⟩
  ·intro hle
   rw [if_neg hle] at im;rw [if_neg (by omega), im] at Es;exact ⟨_, Es⟩
theorem Fu {x y : Int} (hx : 0 <= x /\ x < 256) (hy : 0 <= y /\ y < 256) : bA B K nN [.int .u8 x, .int .u8 y] = some (.bool true) := by
 obtain ⟨k, hk, h3⟩ : ∃ k : Nat, x.tmod 3 = (k : Int) /\ k < 3 := ⟨(x.tmod 3).toNat, by rw [Int.tmod_eq_emod_of_nonneg hx.1]; omega, by rw [Int.tmod_eq_emod_of_nonneg hx.1]; omega⟩
 obtain ⟨j, hj, h4⟩ : ∃ j : Nat, y.tmod 4 = (j : Int) /\ j < 4 := ⟨(y.tmod 4).toNat, by rw [Int.tmod_eq_emod_of_nonneg hy.1]; omega, by rw [Int.tmod_eq_emod_of_nonneg hy.1]; omega⟩
 have Ws : ∀ M, run U 8 [] M = some (.ret (.bool true) M) := fun M => KN
 have w1 : IntKind.i64.wrap y = y := wrap_i64 (by omega) (by omega)
 have z4 : ¬ ((4 : Int) = 0) := by decide
 have z3 : ¬ ((3 : Int) = 0) := by decide
 rw [dQ (by simp [dv])]
 generalize hL0 : exec (UT B K) (aH.loop eL) = L0
 generalize hL1 : exec (UT B K) (aH.loop dW) = L1
 generalize hL2 : exec (UT B K) (aH.loop eK) = L2
 generalize hX : UF _ = X
 obtain rfl | rfl | rfl : k = 0 \/ k = 1 \/ k = 2 := by omega
 ·obtain ⟨n, hn⟩ : ∃ n, n = 96 + j := ⟨_, rfl⟩
  have w2 : IntKind.i64.wrap (96 + (j : Int)) = (n : Int) := by rw [wrap_i64 (by omega) (by omega)]; omega
  have FB : x.tmod 3 = 0 := hk
  have c0 := jO (a := [102, 110, 32, 102, 40]) (b := [41, 32, 105, 110, 116, 32, 123]) (c := Kr ++ NZ) (by simp) rfl
  obtain ⟨pa, pb⟩ := xV (k := 0) (j := j) (n := n) (by decide) h4 hn
  have JA := jO (a := (Kr ++ NZ) ++ uc n Sg) (b := 125 :: uc n [125]) (c := ml 0 n) (by simp only [ja, List.length_cons, pY]; simp [Kr, NZ, Sg]; omega) rfl
  simp +contextual -implicitDefEqProofs (maxSteps := 1000000) (maxDischargeDepth := 8) only [dv, w1, w2, z4, z3, FB, hj, c0, if_false, aq, aa, implies_true, simprocAttr] at hX
  subst hL0;generalize hC : exec _ (.loop eL) _ _ = C at hX
  obtain ⟨o, rfl, fr', rfl, f5, f6, f9, f7, f8, fd⟩ := hZ hC (TR (n := n) (s0 := Kr ++ NZ) (by decide) (by omega) (by simp only [ap, Nat.reduceBEq ]) (by simp only [ap, Nat.reduceBEq ]) (by simp only [ap, Nat.reduceBEq ]) (by simp only [ap, Nat.reduceBEq ]) (by simp only [ap, Nat.reduceBEq ]))
  clear hC;simp only [ap, Nat.reduceBEq ] at f7 f8 f9;by_cases hle : n <= 98
  ·obtain ⟨tr, Es, hw⟩ := pa hle
   have hc : (n : Int) <= 98 := by omega
   simp +contextual -implicitDefEqProofs (maxSteps := 1000000) (maxDischargeDepth := 8) only [f5, f6, f7, f8, f9, fd, JA, Es, hw, hc, Ws, aq, aa, implies_true, simprocAttr] at hX
   exact hX.symm
  ·obtain ⟨p, Es⟩ := pb hle
   have hc : ¬ (n : Int) <= 98 := by omega
   have e0 : Bq 0 = 4 := rfl
   rw [e0] at Es;simp +contextual -implicitDefEqProofs (maxSteps := 1000000) (maxDischargeDepth := 8) only [f5, f6, f7, f8, f9, fd, JA, Es, hc, Ws, aq, aa, implies_true, simprocAttr] at hX
   exact hX.symm
 ·obtain ⟨n, hn⟩ : ∃ n, n = 6 + j := ⟨_, rfl⟩
  have w2 : IntKind.i64.wrap (6 + (j : Int)) = (n : Int) := by rw [wrap_i64 (by omega) (by omega)]; omega
  have FB : x.tmod 3 = 1 := hk
  obtain ⟨pa, pb⟩ := xV (k := 1) (j := j) (n := n) (by decide) h4 hn
  have HA := yL n
  have c1 := jO (a := Kr ++ sW n) (b := [41, 32, 105, 110, 116, 32, 123]) (c := (Kr ++ sW n) ++ NZ) (by simp only [ja]; simp [Kr]; omega) rfl
  have JA := jO (a := (Kr ++ sW n) ++ NZ) (b := [125]) (c := ml 1 n) (by simp only [ja]; simp [Kr, NZ]; omega) rfl
  simp +contextual -implicitDefEqProofs (maxSteps := 1000000) (maxDischargeDepth := 8) only [dv, w1, w2, z4, z3, FB, hj, if_false, aq, aa, implies_true, simprocAttr] at hX
  subst hL1;generalize hC : exec _ (.loop dW) _ _ = C at hX
  obtain ⟨o, rfl, fr', rfl, f5, f6, f9, f7, f8, fd⟩ := hZ hC (TQ (n := n) (s0 := Kr) (by decide) (by omega) (by simp only [ap, Nat.reduceBEq ]; rfl) (by simp only [ap, Nat.reduceBEq ]) (by simp only [ap, Nat.reduceBEq ]) (by simp only [ap, Nat.reduceBEq ]))
  clear hC;simp only [ap, Nat.reduceBEq ] at f6 f7 f8 f9;by_cases hle : n <= 8
  ·obtain ⟨tr, Es, hw⟩ := pa hle
   have hc : (n : Int) <= 8 := by omega
   simp +contextual -implicitDefEqProofs (maxSteps := 1000000) (maxDischargeDepth := 8) only [f5, f6, f7, f8, f9, fd, c1, JA, Es, hw, hc, Ws, aq, aa, implies_true, simprocAttr] at hX
   exact hX.symm
  ·obtain ⟨p, Es⟩ := pb hle
   have hc : ¬ (n : Int) <= 8 := by omega
   have e0 : Bq 1 = 3 := rfl
   rw [e0] at Es;simp +contextual -implicitDefEqProofs (maxSteps := 1000000) (maxDischargeDepth := 8) only [f5, f6, f7, f8, f9, fd, c1, JA, Es, hc, Ws, aq, aa, implies_true, simprocAttr] at hX
   exact hX.symm
 ·obtain ⟨n, hn⟩ : ∃ n, n = 198 + j := ⟨_, rfl⟩
  have w2 : IntKind.i64.wrap (198 + (j : Int)) = (n : Int) := by rw [wrap_i64 (by omega) (by omega)]; omega
  have FB : x.tmod 3 = 2 := hk
  obtain ⟨pa, pb⟩ := xV (k := 2) (j := j) (n := n) (by decide) h4 hn
  have JA := jO (a := uc n GS) (b := []) (c := ml 2 n) (by simp only [pY]; simp [GS]; omega) rfl
  simp +contextual -implicitDefEqProofs (maxSteps := 1000000) (maxDischargeDepth := 8) only [dv, w1, w2, z4, z3, FB, hj, if_false, aq, aa, implies_true, simprocAttr] at hX
  subst hL2;generalize hC : exec _ (.loop eK) _ _ = C at hX
  obtain ⟨o, rfl, fr', rfl, f5, f6, f9, f7, f8, fd⟩ := hZ hC (TP (n := n) (by omega) (by simp only [ap, Nat.reduceBEq ]) (by simp only [ap, Nat.reduceBEq ]) (by simp only [ap, Nat.reduceBEq ]) (by simp only [ap, Nat.reduceBEq ]))
  clear hC;simp only [ap, Nat.reduceBEq ] at f6 f7 f8 f9;by_cases hle : n <= 200
  ·obtain ⟨tr, Es, hw⟩ := pa hle
   have hc : (n : Int) <= 200 := by omega
   simp +contextual -implicitDefEqProofs (maxSteps := 1000000) (maxDischargeDepth := 8) only [f5, f6, f7, f8, f9, fd, JA, Es, hw, hc, Ws, aq, aa, implies_true, simprocAttr] at hX
   exact hX.symm
  ·obtain ⟨p, Es⟩ := pb hle
   have hc : ¬ (n : Int) <= 200 := by omega
   have e0 : Bq 2 = 3 := rfl
   rw [e0] at Es;simp +contextual -implicitDefEqProofs (maxSteps := 1000000) (maxDischargeDepth := 8) only [f5, f6, f7, f8, f9, fd, JA, Es, hc, Ws, aq, aa, implies_true, simprocAttr] at hX
   exact hX.symm
theorem parseDeep_run {m : Mem} {es : List EV} {ds : List Dt} (hm : Sa m) (hg : mJ (still m)) (h : sa m [.int .u8, .int .u8] es ds) : ∃ m', run T nN es m = some (.ret (.bool true) m') := by
 obtain ⟨us, hu, hl⟩ := QT abM (f := nN) (F := dv) (cC.has (T := B)) hm h rfl hg
 obtain ⟨e1, d1, qZ, vc, rfl, _, h1, hu⟩ := hu.one
 obtain ⟨e2, d2, af6, agb, rfl, _, h2, hu⟩ := hu.one
 obtain rfl := hu.none
 obtain ⟨x, rfl, hx⟩ := RC h1
 obtain ⟨y, rfl, hy⟩ := RC h2
 exact hl (Fu (wf_u8 hx) (wf_u8 hy))
end
end Go.Proofs.YtdiccmapankckaaDoor.Ev
