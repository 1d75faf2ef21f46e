/- EvOpF, EvOpG, EvOp, EvOps, EvDraw, EvSched, EvMake, EvDraws. -/
import Derived.Test.YtdiccmapankckaaDoorMa
set_option linter.unusedSimpArgs false
set_option linter.unusedVariables false
set_option linter.unusedSectionVars false
set_option linter.defProp false
set_option maxRecDepth 20000
set_option maxHeartbeats 8000000
namespace Go.Proofs.YtdiccmapankckaaDoor.Ev
open Go
section
section
variable {base : Nat} {ρ : eF} {m : Mem} {w : World} {P : Program}
theorem GP (FL : Nat) : ∀ r c, c < FL -> Builtin.growBy FL r c <= 2 * FL + 768
 | 0, c, h => by simp [Builtin.growBy]; omega
 | r + 1, c, h => by
  simp only [Builtin.growBy];rw [if_neg (by omega)];by_cases h2 : c + (c + 768) / 4 < FL
  ·exact GP FL r _ h2
  ·cases r with
   | zero => simp [Builtin.growBy]; omega
   | succ r => simp only [Builtin.growBy]; rw [if_pos (by omega)]; omega
theorem Lm {FL old : Nat} (h : old < FL) : Builtin.nextslicecap FL old <= 2 * FL + 768 := by
 unfold Builtin.nextslicecap
 split
 ·omega
 ·split
  ·omega
  ·exact GP FL 4 old h
theorem jq (hR : R base ρ m w) {x : EV} {x' : Value} (hx : VR ρ x x') (size : Nat) {n : Nat} {xs : List EV} (h : m.source size x = some (n, xs)) :
  (Builtin.lenOf x').run P w = .ok n w /\ xs.length = n * size /\ ∀ k, k <= n -> ∃ vs : List Value, (Builtin.firstCells size k x').run P w = .ok ⟨vs⟩ w /\ fB ρ (xs.take (k * size)) vs /\ (∀ c ∈ vs, c.oneCell' = true) := by
 cases x <;> simp only [Mem.source, reduceCtorEq, bj, eQ] at h
 case fz => cases hx
 case ae =>
  obtain ⟨rfl, rfl⟩ := h
  cases hx
  refine ⟨rfl, by simp, fun k hk => ⟨[], ?_, by simpa using fB.nil, by simp⟩⟩
  rfl
 case str s =>
  cases uo : size.beq 1 <;> simp only [uo, cond_true, cond_false, reduceCtorEq, bj, eQ] at h
  obtain ⟨rfl, rfl⟩ := h
  obtain rfl := aV uo
  cases hx with
  | str s' =>
  refine ⟨rfl, by simp, fun k hk => ⟨(s'.data.toList.take k).map fun b => .int .u8 (b.toNat : Int), ?_, ?_, ?_⟩⟩
  ·simp only [Builtin.firstCells, Sem.run_pure]
   congr 1
   apply Array.ext'
   simp
  ·rw [Nat.mul_one, <- List.map_take]
   exact fB.HM _ _ (R := fun a b => a = b) (fun a b e => by subst e; exact .int _ _) rfl fun i a b h1 h2 => by rw [h1] at h2; cases h2; rfl
  ·intro c hc
   obtain ⟨b, _, rfl⟩ := List.mem_map.1 hc
   rfl
 case slice b off len cap =>
  obtain ⟨cs, mF, h2⟩ := kr.1 h
  cases h2
  refine ⟨by cases hx <;> rfl, uQ mF, fun k hk => ?_⟩
  have nS : k * size <= n * size := Nat.mul_le_mul_right _ hk
  have FP : m.row b off (k * size) = some (xs.take (k * size)) := by
   by_cases JP : k * size = 0
   ·rw [JP, Mem.nA]; simp
   rw [Mem.qi JP];rw [Mem.qi (by omega)] at mF;unfold Mem.Hw at mF ⊢
   split at mF
   ·rename_i ds _ _ _ hg
    cases hl : (off + n * size).ble ds.length <;> simp only [hl, cond_true, cond_false, reduceCtorEq, bj] at mF
    have := rc hl
    have h3 : (off + k * size).ble ds.length = true := BH (by omega)
    simp only [h3, cond_true];subst mF;rw [List.take_take, Nat.min_eq_left nS]
   ·cases mF
  obtain ⟨a, c, vs, rfl, h3, h4, h5, h6⟩ := ny (P := P) hR hx size hk FP
  exact ⟨vs, by simpa [Builtin.firstCells] using h3, h4, h5⟩
theorem kill (hR : R base ρ m w) {b : Nat} {L : Loc} (hb : ρ b = some L) : R base ρ (m.set b .dead) w /\ Step ρ m w ρ (m.set b .dead) w := by
 have hl : ∀ c, Live (m.set b .dead) c -> c ≠ b /\ Live m c := by
  intro c hc
  unfold Live at hc ⊢
  rw [Mem.bY] at hc;by_cases e : c = b
  ·rw [if_pos e] at hc; exact absurd rfl hc
  ·rw [if_neg e] at hc; exact ⟨e, hc⟩
 refine ⟨⟨hR.lt, fun c M hM => ?_, fun c d M M' hM H3 h1 h2 h3 h4 => hR.inj c d M M' hM H3 (hl c h1).2 (hl d h2).2 h3 h4, hR.base, fun c hc => by rw [Mem.bY]; split <;> first | rfl | exact hR.clean c hc⟩, ⟨.refl ρ, fun _ h h' => absurd h h', eX _, fun c hc hn => ?_, fun c _ hd => by rw [Mem.bY]; split <;> first | rfl | exact hd, eX _, fun i hi => ?_, fun _ _ _ => rfl, rfl, rfl, rfl⟩⟩
 ·rw [Mem.bY]
  by_cases e : c = b
  ·rw [if_pos e]; trivial
  ·rw [if_neg e]; exact hR.dj c M hM
 ·rw [Mem.bY, if_neg (fun e => by subst e; rw [hb] at hn; cases hn)]
 ·rintro ⟨c, M, hM, h1, h2, h3⟩
  exact ⟨c, M, hM, (hl c h1).2, h2, h3⟩
theorem Ky (hR : R base ρ m w) {b : Nat} {L : Loc} (hb : ρ b = some L) {cs0 : List EV} {el0 : Nat} (hm : m.get b = .cells cs0 L.esz el0 false) {o len n c : Nat} {old xs : List EV} {FG : List Value} (elem : Nat)
  (hold : ∀ (i : Nat) (v : EV), old[i]? = some v -> cs0[o - L.off + i]? = some v /\ L.off <= o) (WC : old.length = len * L.esz) (Tq : xs.length = n * L.esz) (JV : len + n <= c) (hr : o + c * L.esz <= L.total)
  (hx : fB ρ xs FG) (hf : ∀ c ∈ FG, c.oneCell' = true) :
  ∃ (w' : World) (L' : Loc), (storeCells ⟨L.dj, o + len * L.esz, none⟩ FG).run P w = .ok () w' /\ L'.dj = L.dj /\ L'.off = o /\ L'.total = L.total /\ L'.esz = L.esz /\ L'.ro = false /\
   R base (ρ.put m.next L') ((m.new (.cells (old ++ xs) L.esz elem false)).set b .dead) w' /\ Step ρ m w (ρ.put m.next L') ((m.new (.cells (old ++ xs) L.esz elem false)).set b .dead) w' := by
 have hB := hR.dj b L hb
 rw [hm] at hB;obtain ⟨arr, e, fz, h1, h2, h3, h4, h5, h6, h7, h8⟩ := hB
 obtain ⟨JW, ur⟩ := h7 rfl
 have afk := hx.length
 have Y1 : len * L.esz + n * L.esz <= c * L.esz := by rw [<- Nat.add_mul]; exact Nat.mul_le_mul_right _ JV
 obtain ⟨w', Iw, r1, r2, r3, r4, r5, r6, r7, r8, r9⟩ := pe (P := P) (o := o + len * L.esz) FG 0 w arr h1 (by omega) ur hf
 let L' : Loc := ⟨L.dj, o, L.total, L.esz, false⟩
 have X1 : L'.off = o := rfl
 have hn := hR.Um
 have he := eF.H8 L' hn
 have xu : Live m b := by unfold Live; rw [hm]; simp
 have FX : b ≠ m.next := by have := hR.lt b L hb; omega
 let m' := (m.new (.cells (old ++ xs) L.esz elem false)).set b .dead
 have fw : m'.get m.next = .cells (old ++ xs) L.esz elem false := by
  show Mem.get (Mem.set _ _ _) _ = _
  rw [Mem.bY, if_neg (Ne.symm FX), Mem.fw, if_pos rfl]
 have RM : m'.get b = .dead := by
  show Mem.get (Mem.set _ _ _) _ = _
  rw [Mem.bY, if_pos rfl]
 have iP : ∀ d, d ≠ m.next -> d ≠ b -> m'.get d = m.get d := fun d hd FW => by
  show Mem.get (Mem.set _ _ _) _ = _
  rw [Mem.bY, if_neg FW, Mem.fw, if_neg hd]
 have u4 : ∀ d, d ≠ m.next -> Live m' d -> d ≠ b /\ Live m d := by
  intro d hd hl
  have hdb : d ≠ b := fun e => by subst e; exact hl RM
  exact ⟨hdb, by unfold Live at hl ⊢; rwa [iP d hd hdb] at hl⟩
 refine ⟨w', L', r1, rfl, rfl, rfl, rfl, rfl, ⟨?_, ?_, ?_, ?_, fun d hd => by have hd : m.next + 1 <= d := hd; have := hR.lt b L hb; rw [iP d (by omega) (by omega)]; exact hR.clean d (by omega)⟩, ⟨he, ?_, ?_, ?_, fun d hd XS => (Classical.em (d = b)).elim (fun e => by rw [e]; exact RM) (fun e => by have hdn : d ≠ m.next := Nat.ne_of_lt hd; exact (iP d hdn e).trans XS), by omega, ?_, ?_, r7, r8, r9⟩⟩
 ·intro d M hM
  show d < m.next + 1
  unfold eF.put at hM;by_cases e : d = m.next
  ·omega
  ·rw [if_neg e] at hM; have := hR.lt d M hM; omega
 ·intro d M hM
  unfold eF.put at hM;by_cases e : d = m.next
  ·rw [if_pos e] at hM; cases hM
   subst e
   show Bi base _ (m'.get m.next) _ _
   rw [fw];refine ⟨Iw, _, fz, r2, r3.trans h2, rfl, rfl, by rw [X1, kL]; show _ <= L.total; omega, ?_, fun _ => ⟨JW, by rw [r3]; exact ur⟩, by simp⟩
   intro i v hi
   rw [r4];by_cases bg : i < old.length
   ·rw [B8 bg] at hi
    obtain ⟨g0, g1⟩ := hold i v hi
    obtain ⟨v', k1, k2, k3⟩ := h6 _ v g0
    rw [if_neg (by rw [X1]; omega)]
    refine ⟨v', ?_, k2.ext he, k3⟩
    rw [show L'.off + i = L.off + (o - L.off + i) by rw [X1]; omega]
    exact k1
   ·rw [FF (by omega)] at hi
    obtain ⟨v', k1, k2⟩ := hx.get _ v hi
    have mT : i - old.length < FG.length := (rn.1 k1).1
    rw [if_pos (by rw [X1]; omega)]
    refine ⟨v', ?_, k2.ext he, hf v' (List.mem_of_getElem? k1)⟩
    rw [<- k1]; congr 1; rw [X1]; omega
  ·rw [if_neg e] at hM
   show Bi base _ (m'.get d) _ _
   by_cases hd : d = b
   ·subst hd; rw [RM]; trivial
   ·rw [iP d e hd]
    by_cases hl : m.get d = .dead
    ·rw [hl]; trivial
    ·have iJ : M.dj ≠ L.dj := fun xx => hd (hR.inj b d L M hb hM xu hl (by rw [h4]) xx.symm).symm
     exact (hR.dj d M hM).of_heap he (r5 _ iJ)
 ·intro d f M M' hM H3 hl zz rj xx
  unfold eF.put at hM H3
  by_cases e : d = m.next <;> by_cases e' : f = m.next
  ·rw [e, e']
  ·rw [if_pos e] at hM; cases hM
   rw [if_neg e'] at H3
   obtain ⟨q1, q2⟩ := u4 f e' zz
   exact absurd (hR.inj b f L M' hb H3 xu q2 (by rw [h4]) xx).symm q1
  ·rw [if_pos e'] at H3; cases H3
   rw [if_neg e] at hM;obtain ⟨q1, q2⟩ := u4 d e hl
   exact absurd (hR.inj d b M L hM hb q2 xu rj xx) q1
  ·rw [if_neg e] at hM; rw [if_neg e'] at H3
   exact hR.inj d f M M' hM H3 (u4 d e hl).2 (u4 f e' zz).2 rj xx
 ·rw [r6]; exact hR.base
 ·intro d hd1 FV
  unfold eF.put at FV;by_cases e : d = m.next
  ·omega
  ·rw [if_neg e] at FV; exact absurd hd1 FV
 ·show m.next <= m.next + 1; omega
 ·intro d hd Uw
  exact iP d (by omega) (fun e => by subst e; rw [hb] at Uw; cases Uw)
 ·rintro i hi ⟨d, M, hM, hl, rj, xx⟩
  unfold eF.put at hM;by_cases e : d = m.next
  ·rw [if_pos e] at hM; cases hM
   exact ⟨b, L, hb, xu, by rw [h4], xx⟩
  ·rw [if_neg e] at hM
   exact ⟨d, M, hM, (u4 d e hl).2, rj, xx⟩
 ·intro i hi hr
  exact r5 i (fun e => hr ⟨b, L, hb, xu, by rw [h4], e.symm⟩)
theorem DU (z : Array Value) (n : Nat) : (Builtin.zeroCells z n).size = n * z.size := by simp [Builtin.zeroCells]
theorem RK {t u e : TypeId} {du : TypeDesc} {i : TypeInfo} (ht : P.underlying t = some (.slice e)) (hu : P.underlying u = some du) (GO : (∃ v, du = .slice v) \/ du = .string) (hi : P.info? e = some i) {zv : Value} (hz : ∀ w, (zeroValue e).run P w = .ok zv w)
  (HX : zv.cells.size = i.size) (hb : i.bytes <= 65536) {a : Option Addr} {len cap n : Nat} {x' : Value} {old xs : List Value} (hn : (Builtin.lenOf x').run P w = .ok n w) (RB : cap < len + n) (zw : len + n <= room)
  (hold : (Builtin.firstCells i.size len (.slice a len cap)).run P { w with drawn := w.drawn + 1 } = .ok ⟨old⟩ { w with drawn := w.drawn + 1 }) (Vy : (Builtin.firstCells i.size n x').run P { w with drawn := w.drawn + 1 } = .ok ⟨xs⟩ { w with drawn := w.drawn + 1 }) :
  ∃ (w' : World) (c : Nat) (extra : List Value), (Builtin.append_ #[t, u] t #[.slice a len cap, x']).run P w = .ok (.slice (some ⟨w.heap.size, 0, none⟩) (len + n) c) w' /\ len + n <= c /\ extra.length = (c - (len + n)) * i.size /\
   IF w (.cells ⟨(old ++ xs) ++ extra⟩ e (0, 0)) w' := by
 have hs : gi P e = some i.size := by simp [gi, hi]
 let q : Question := .appendCap (len + n) cap e
 let c := q.cut (w.tape w.drawn q)
 have hc : len + n <= c := Nat.le_add_right _ _
 refine ⟨{ w with drawn := w.drawn + 1, heap := w.heap.push (.cells (⟨old⟩ ++ ⟨xs⟩ ++ Builtin.zeroCells zv.cells (c - (len + n))) e) }, c, (Builtin.zeroCells zv.cells (c - (len + n))).toList, ?_, hc, by simp [DU, HX], ⟨by simp [<- Array.toList_inj], rfl, rfl, rfl⟩⟩
 have hnc := Lm RB
 unfold room at zw;have abI : ¬ Builtin.nextslicecap (len + n) cap * i.bytes > 2 ^ 48 := by
  have h1 : Builtin.nextslicecap (len + n) cap * i.bytes <= (2 * 1073741824 + 768) * 65536 := Nat.mul_le_mul (by omega) hb
  omega
 rcases GO with ⟨v, rfl⟩ | rfl
 all_goals
  unfold Builtin.append_;simp only [List.getElem?_toArray, List.getElem?_cons_zero, List.getElem?_cons_succ, Sem.run_bind, run_underlying ht, Result.andThen_ok, ca hs, run_underlying hu, Sem.run_pure, rp, if_false, Bool.not_false, if_true, hn];rw [if_neg (by omega)];simp only [Sem.run_bind, run_typeInfo hi, Result.andThen_ok];rw [if_neg (by simp only [IntKind.max_i64]; omega)]
  simp only [Sem.run_bind, run_typeInfo hi, Result.andThen_ok];rw [if_neg abI];simp only [Sem.run_bind, run_choose];rw [show (Question.appendCap (len + n) cap e).forced = false from rfl];simp only [rp, if_false, Result.andThen_ok, run_askRoom, run_typeInfo hi];rw [hold];simp only [Result.andThen_ok];rw [Vy];simp only [Result.andThen_ok, hz, Sem.run_pure, newRow, Sem.run_bind, run_newObj]
  rfl
theorem rX {t u e : TypeId} {du : TypeDesc} {size : Nat} (ht : P.underlying t = some (.slice e)) (hu : P.underlying u = some du) (GO : (∃ v, du = .slice v) \/ du = .string) (hs : gi P e = some size)
  {a : Option Addr} {len cap n : Nat} {x' : Value} {xs : List Value} (hn : (Builtin.lenOf x').run P w = .ok n w) (JS : len + n <= cap) (Vy : (Builtin.firstCells size n x').run P w = .ok ⟨xs⟩ w) :
  (Builtin.append_ #[t, u] t #[.slice a len cap, x']).run P w = (match a with | some b => (storeCells (b.add (len * size)) xs).run P w | none => .ok () w : Result Unit).andThen fun _ w' => .ok (.slice a (len + n) cap) w' := by
 rcases GO with ⟨v, rfl⟩ | rfl
 all_goals
  unfold Builtin.append_;simp only [List.getElem?_toArray, List.getElem?_cons_zero, List.getElem?_cons_succ, Sem.run_bind, run_underlying ht, Result.andThen_ok, ca hs, run_underlying hu, Sem.run_pure, rp, if_false, Bool.not_false, if_true, hn];rw [if_pos JS];simp only [Sem.run_bind, Vy, Result.andThen_ok]
  cases a <;> simp
theorem qj (w : World) : Fq w { w with drawn := w.drawn + 1 } := ⟨rfl, rfl, rfl, rfl⟩
theorem FJ {x : EV} {n : Nat} {xs : List EV} {esz : Nat} {x' : Value} (hx : VR ρ x x') (h : m.source esz x = some (n, xs)) : xs.length = n * esz := by
 cases x <;> simp only [Mem.source, reduceCtorEq, bj, eQ] at h
 case fz => cases hx
 case ae => obtain ⟨rfl, rfl⟩ := h; simp
 case str s =>
  cases uo : esz.beq 1 <;> simp only [uo, cond_true, cond_false, reduceCtorEq, bj, eQ] at h
  obtain ⟨rfl, rfl⟩ := h
  obtain rfl := aV uo
  simp
 case slice b off len cap =>
  obtain ⟨cs, mF, h2⟩ := kr.1 h
  cases h2
  exact uQ mF
theorem tB (hR : R base ρ m w) {t u e : TypeId} {du : TypeDesc} {i : TypeInfo} {z : List EV} (ht : P.underlying t = some (.slice e)) (hu : P.underlying u = some du) (GO : (∃ v, du = .slice v) \/ du = .string) (hi : P.info? e = some i)
  (hz : nZ P e = some z) (HX : z.length = i.size) (hb : i.bytes <= 65536) {a : Option Addr} {len cap n : Nat} {x : EV} {x' : Value} (hx : VR ρ x x') {xs : List EV} (jM : m.source i.size x = some (n, xs)) (RB : cap < len + n) (zw : len + n <= room)
  {old : List EV} {old' : List Value} (hov : fB ρ old old') (WD : ∀ c ∈ old', c.oneCell' = true) (WC : old.length = len * i.size)
  (hold : (Builtin.firstCells i.size len (.slice a len cap)).run P { w with drawn := w.drawn + 1 } = .ok ⟨old'⟩ { w with drawn := w.drawn + 1 }) :
  As P (Builtin.append_ #[t, u] t #[.slice a len cap, x']) base ρ m w (.slice m.next 0 (len + n) none) (m.new (.cells (old ++ xs) i.size e false)) := by
 obtain ⟨zv, z1, z2, _⟩ := nu (ρ := ρ) hz
 have Xn : zv.cells.size = i.size := by have := z2.length; simp at this; omega
 obtain ⟨s1, s2, _⟩ := jq (P := P) hR hx i.size jM
 obtain ⟨_, _, s3⟩ := jq (P := P) (hR.quiet (qj w)) hx i.size jM
 obtain ⟨vs, f1, f2, f3⟩ := s3 n (eX n)
 rw [Gc (by omega)] at f2;obtain ⟨w', c, extra, g1, g2, g3, g4⟩ := RK (P := P) (w := w) ht hu GO hi z1 Xn hb s1 RB zw hold f1
 have VU := hov.append f2
 obtain ⟨L, h1, h2, h3, h4, h5, h6, h7, h8⟩ := HG hR VU (fun c hc => by
  rcases uD.1 hc with hc | hc
  ·exact WD c hc
  ·exact f3 c hc) i.size e e extra (0, 0) (A4 _) w' g4
 refine ⟨_, w', _, g1, ?_, h7, h8⟩
 rw [<- h2];refine .slice h1 g2 (fun _ => by rw [h3]) (fun _ => ?_)
 have hl1 := hov.length
 have SC := f2.length
 rw [h5, h4, g3, kL, <- hl1, <- SC, WC, s2, <- Nat.add_mul, <- Nat.add_mul];rw [show len + n + (c - (len + n)) = c by omega];simp
theorem Iy (hR : R base ρ m w) {t u e : TypeId} {du : TypeDesc} {i : TypeInfo} {z : List EV} (ht : P.underlying t = some (.slice e)) (hu : P.underlying u = some du) (GO : (∃ v, du = .slice v) \/ du = .string) (hi : P.info? e = some i)
  (hz : nZ P e = some z) (HX : z.length = i.size) (hb : i.bytes <= 65536) {s x : EV} {s' x' : Value} (hs : VR ρ s s') (hx : VR ρ x x') {v : EV} {m' : Mem} (h : fV m e i.size s x = some (v, m')) :
  As P (Builtin.append_ #[t, u] t #[s', x']) base ρ m w v m' := by
 have uo : gi P e = some i.size := by simp [gi, hi]
 unfold fV at h
 cases jM : m.source i.size x with
 | none => simp [jM] at h
 | some nx =>
 obtain ⟨n, xs⟩ := nx
 simp only [jM] at h;have Tq := FJ hx jM
 obtain ⟨s1, s2, s3⟩ := jq (P := P) hR hx i.size jM
 obtain ⟨vs, f1, f2, f3⟩ := s3 n (eX n)
 rw [Gc (by omega)] at f2
 cases hn : n.beq 0 with
 | true =>
  obtain rfl := aV hn
  simp only [hn, cond_true] at h;have yk : vs = [] := by
   have := f2.length
   rw [Tq] at this;simp at this
   exact List.eq_nil_of_length_eq_zero this.symm
  subst yk
  cases hs <;> simp only [reduceCtorEq, bj, eQ] at h
  case ae =>
   obtain ⟨rfl, rfl⟩ := h
   exact ⟨ρ, w, _, by rw [rX ht hu GO uo s1 (eX _) f1]; rfl, .ae, hR, .refl _ _ _⟩
  case slice b off len c o L hL hc ho hr =>
   obtain ⟨rfl, rfl⟩ := h
   exact ⟨ρ, w, _, by rw [rX ht hu GO uo s1 (by omega) f1]; rfl, .slice hL hc ho hr, hR, .refl _ _ _⟩
  case gS b off a =>
   obtain ⟨rfl, rfl⟩ := h
   exact ⟨ρ, w, _, by rw [rX ht hu GO uo s1 (by omega) f1]; rfl, .gS, hR, .refl _ _ _⟩
  case fJ b off len c o L hL hc ho =>
   obtain ⟨rfl, rfl⟩ := h
   exact ⟨ρ, w, _, by rw [rX ht hu GO uo s1 (by omega) f1]; rfl, .fJ hL hc ho, hR, .refl _ _ _⟩
 | false =>
  have pR := kh hn
  simp only [hn, cond_false] at h
  cases hs <;> simp only [reduceCtorEq] at h
  case ae =>
   cases Nj : n.ble room <;> simp only [Nj, cond_true, cond_false, reduceCtorEq, bj, eQ] at h
   obtain ⟨rfl, rfl⟩ := h
   have hle := rc Nj
   have := tB (P := P) (a := none) (len := 0) (cap := 0) hR ht hu GO hi hz HX hb hx jM (by omega) (by omega) (old := []) (old' := []) .nil (by simp) (by simp) rfl
   simpa using this
  case slice b off len c o L hL hc ho hr =>
   cases Nj : (len + n).ble room <;> simp only [Nj, cond_true, cond_false, reduceCtorEq] at h
   have zw := rc Nj
   cases hold : m.row b off (len * i.size) with
   | none => simp [hold] at h
   | some old =>
   simp only [hold] at h
   cases hm : m.get b with
   | dead => simp [hm] at h
   | map es => simp [hm] at h
   | cells cs0 ab1 el0 ro0 =>
   simp only [hm] at h
   cases ro0 with
   | true => simp at h
   | false =>
   simp only [] at h
   cases he : ab1.beq i.size <;> simp only [he, cond_true, cond_false, reduceCtorEq, bj, eQ] at h
   obtain rfl := aV he
   obtain ⟨rfl, rfl⟩ := h
   have uF := RX hR hL hm
   have hB := hR.dj b L hL
   rw [hm] at hB;obtain ⟨_, _, _, _, _, _, rj, _⟩ := hB
   by_cases JS : len + n <= c
   ·have FP : ∀ (j : Nat) (v : EV), old[j]? = some v -> cs0[o - L.off + j]? = some v /\ L.off <= o := by
     intro j v hj
     have bg : j < old.length := (rn.1 hj).1
     have WC := uQ hold
     have hlp : 0 < len := by
      rcases Nat.eq_zero_or_pos len with h0 | h0
      ·subst h0; simp at WC; subst WC; simp at bg
      ·exact h0
     have ho' := ho hlp
     have iJ : len * i.size ≠ 0 := by intro h0; rw [h0] at WC; omega
     rw [Mem.qi iJ] at hold;unfold Mem.Hw at hold;simp only [hm] at hold
     cases hl : (off + len * i.size).ble cs0.length <;> simp only [hl, cond_true, cond_false, reduceCtorEq, bj] at hold
     subst hold;rw [List.getElem?_take] at hj
     split at hj
     ·rw [List.getElem?_drop] at hj
      exact ⟨by rw [show o - L.off + j = off + j by omega]; exact hj, by omega⟩
     ·cases hj
    obtain ⟨w', L', a1, a2, a3, a4, a5, a6, a7, a8⟩ := Ky (P := P) hR hL (by rw [uF]; exact hm) e FP (by rw [uF]; exact uQ hold) (by rw [uF]; exact Tq) JS (hr rj) f2 f3
    rw [uF] at a1 a7 a8;refine ⟨_, w', .slice (some ⟨L.dj, o, none⟩) (len + n) c, ?_, ?_, a7, a8⟩
    ·rw [rX ht hu GO uo s1 JS f1]
     simp only [add_eq, a1, Result.andThen_ok]
    ·have hp : (ρ.put m.next L') m.next = some L' := by simp [eF.put]
     rw [<- a2];refine .slice hp JS (fun _ => by rw [a3]; rfl) (fun _ => ?_)
     rw [a5, a4]; exact hr rj
   ·obtain ⟨a, c', vs0, e1, e2, e3, e4, e5⟩ := ny (P := P) (hR.quiet (qj w)) (.slice hL hc ho hr) i.size (eX len) hold
    cases e1
    obtain ⟨ρ', w', v', g1, g2, g3, g4⟩ := tB (P := P) hR ht hu GO hi hz HX hb hx jM (a := some ⟨L.dj, o, none⟩) (len := len) (cap := c) (by omega) zw e3 e4 (uQ hold) (by simpa [Builtin.firstCells] using e2)
    obtain ⟨k1, k2⟩ := kill g3 (g4.ext _ _ hL)
    exact ⟨ρ', w', v', g1, g2, k1, g4.trans k2⟩
  case gS b off a =>
   cases Nj : (0 + n).ble room <;> simp only [Nj, cond_true, cond_false, reduceCtorEq] at h
   have zw := rc Nj
   cases hold : m.row b off (0 * i.size) with
   | none => rw [hold] at h; cases h
   | some old =>
   rw [hold] at h; simp only at h
   cases TE : (0 + n).ble 0 <;> simp only [TE, cond_true, cond_false, bj, eQ] at h
   ·obtain ⟨rfl, rfl⟩ := h
    have Ux : 0 < 0 + n := by
     rcases Nat.lt_or_ge 0 (0 + n) with h1 | h1
     ·exact h1
     ·rw [BH h1] at TE; cases TE
    obtain ⟨a', c', vs0, e1, e2, e3, e4, e5⟩ := ny (P := P) (hR.quiet (qj w)) (.gS (b := b) (off := off) (a := a)) i.size (eX 0) hold
    cases e1
    exact tB (P := P) hR ht hu GO hi hz HX hb hx jM (a := some a) (len := 0) (cap := 0) Ux zw e3 e4 (uQ hold) (by simpa [Builtin.firstCells] using e2)
   ·exfalso
    have := rc TE
    have pR : n = 0 := by omega
    simp [pR] at hn
  case fJ b off len c o L hL hc ho =>
   cases Nj : (len + n).ble room <;> simp only [Nj, cond_true, cond_false, reduceCtorEq] at h
   have zw := rc Nj
   cases hold : m.row b off (len * i.size) with
   | none => simp [hold] at h
   | some old =>
   simp only [hold] at h
   cases TE : (len + n).ble c <;> simp only [TE, cond_true, cond_false, bj, eQ] at h
   ·obtain ⟨rfl, rfl⟩ := h
    have Ux : c < len + n := by
     rcases Nat.lt_or_ge c (len + n) with h1 | h1
     ·exact h1
     ·rw [BH h1] at TE; cases TE
    obtain ⟨a, c', vs0, e1, e2, e3, e4, e5⟩ := ny (P := P) (hR.quiet (qj w)) (.fJ hL hc ho) i.size (eX len) hold
    cases e1
    exact tB (P := P) hR ht hu GO hi hz HX hb hx jM (a := some ⟨L.dj, o, none⟩) (len := len) (cap := c) Ux zw e3 e4 (uQ hold) (by simpa [Builtin.firstCells] using e2)
   ·have JS := rc TE
    obtain ⟨m1, Uy, h2⟩ := kr.1 h
    cases h2
    obtain ⟨w', r1, r2, r3⟩ := pV (P := P) hR hL f2 f3 Uy
    refine ⟨ρ, w', .slice (some ⟨L.dj, o, none⟩) (len + n) c, ?_, .fJ hL JS ho, r2, r3⟩
    rw [rX ht hu GO uo s1 JS f1];have : o = L.off + off := ho (by omega)
    subst this;simp only [add_eq, <- Nat.add_assoc] at r1 ⊢
    simp only [r1, Result.andThen_ok]
end
end
section
section
variable {base : Nat} {ρ : eF} {m : Mem} {w : World} {P : Program}
theorem L9 (hR : R base ρ m w) {t u e : TypeId} {size : Nat} (ht : P.underlying t = some (.slice e)) (hs : gi P e = some size) {d s : EV} {d' s' : Value} (hd : VR ρ d d') (hx : VR ρ s s') {v : EV} {m' : Mem} (h : ya m size d s = some (v, m')) :
  As P (Builtin.copy_ #[t, u] t #[d', s']) base ρ m w v m' := by
 unfold ya at h
 cases hd <;> simp only [reduceCtorEq] at h
 case ae =>
  obtain ⟨nx, jM, h2⟩ := kr.1 h
  cases h2
  obtain ⟨s1, s2, s3⟩ := jq (P := P) hR hx size (n := nx.1) (xs := nx.2) jM
  obtain ⟨vs, f1, f2, f3⟩ := s3 0 (kW _)
  refine ⟨ρ, w, .int .i64 0, ?_, .int _ _, hR, .refl _ _ _⟩
  unfold Builtin.copy_;simp only [List.getElem?_toArray, List.getElem?_cons_zero, List.getElem?_cons_succ, Sem.run_bind, run_underlying ht, Result.andThen_ok, s1, ca hs];rw [show Nat.min nx.1 0 = 0 by simp];simp only [f1, Result.andThen_ok, Sem.run_pure, goInt]
  rfl
 case slice b off len c o L hL hc ho hr =>
  cases jM : m.source size s with
  | none => simp [jM] at h
  | some nx =>
  obtain ⟨n, xs⟩ := nx
  simp only [jM] at h;obtain ⟨m1, Uy, h2⟩ := kr.1 h
  cases h2
  obtain ⟨s1, s2, s3⟩ := jq (P := P) hR hx size jM
  obtain ⟨vs, f1, f2, f3⟩ := s3 (min n len) (Nat.min_le_left _ _)
  obtain ⟨w', r1, r2, r3⟩ := pV (P := P) hR hL f2 f3 Uy
  have ev : (storeCells ⟨L.dj, o, none⟩ vs).run P w = .ok () w' := by
   rcases Nat.eq_zero_or_pos len with h0 | h0
   ·have : vs = [] := by
     have := f2.length
     rw [h0] at this;simp at this
     exact List.eq_nil_of_length_eq_zero this.symm
    subst this;exact r1
   ·rw [ho h0]; exact r1
  refine ⟨ρ, w', .int .i64 (min n len : Nat), ?_, .int _ _, r2, r3⟩
  unfold Builtin.copy_;simp only [List.getElem?_toArray, List.getElem?_cons_zero, List.getElem?_cons_succ, Sem.run_bind, run_underlying ht, Result.andThen_ok, s1, ca hs];rw [show Nat.min n len = min n len from rfl];simp only [f1, Result.andThen_ok, Sem.run_pure, goInt, ev]
 case gS b off a =>
  cases jM : m.source size s with
  | none => simp [jM] at h
  | some nx =>
  obtain ⟨n, xs⟩ := nx
  simp only [jM] at h;obtain ⟨m1, Uy, h2⟩ := kr.1 h
  cases h2
  obtain ⟨s1, s2, s3⟩ := jq (P := P) hR hx size jM
  obtain ⟨vs, f1, f2, f3⟩ := s3 (min n 0) (Nat.min_le_left _ _)
  obtain ⟨q1, q2⟩ := Oa (by rw [Nat.min_zero, Nat.zero_mul, List.take_zero] at Uy; exact Uy)
  obtain ⟨r2, r3⟩ := hR.Qk q1 q2
  have yk : vs = [] := by
   have := f2.length
   simp at this
   exact List.eq_nil_of_length_eq_zero this.symm
  subst yk;refine ⟨ρ, w, .int .i64 (min n 0 : Nat), ?_, .int _ _, r2, r3⟩
  unfold Builtin.copy_;simp only [List.getElem?_toArray, List.getElem?_cons_zero, List.getElem?_cons_succ, Sem.run_bind, run_underlying ht, Result.andThen_ok, s1, ca hs];rw [show Nat.min n 0 = min n 0 from rfl];simp only [f1, Result.andThen_ok, Sem.run_pure, goInt, storeCells]
 case fJ b off len c o L hL hc ho =>
  cases jM : m.source size s with
  | none => simp [jM] at h
  | some nx =>
  obtain ⟨n, xs⟩ := nx
  simp only [jM] at h;obtain ⟨m1, Uy, h2⟩ := kr.1 h
  cases h2
  obtain ⟨s1, s2, s3⟩ := jq (P := P) hR hx size jM
  obtain ⟨vs, f1, f2, f3⟩ := s3 (min n len) (Nat.min_le_left _ _)
  obtain ⟨w', r1, r2, r3⟩ := pV (P := P) hR hL f2 f3 Uy
  have ev : (storeCells ⟨L.dj, o, none⟩ vs).run P w = .ok () w' := by
   rcases Nat.eq_zero_or_pos len with h0 | h0
   ·have : vs = [] := by
     have := f2.length
     rw [h0] at this;simp at this
     exact List.eq_nil_of_length_eq_zero this.symm
    subst this;exact r1
   ·rw [ho (by omega)]; exact r1
  refine ⟨ρ, w', .int .i64 (min n len : Nat), ?_, .int _ _, r2, r3⟩
  unfold Builtin.copy_;simp only [List.getElem?_toArray, List.getElem?_cons_zero, List.getElem?_cons_succ, Sem.run_bind, run_underlying ht, Result.andThen_ok, s1, ca hs];rw [show Nat.min n len = min n len from rfl];simp only [f1, Result.andThen_ok, Sem.run_pure, goInt, ev]
def UO (P : Program) (kt : TypeId) (c : Nat) : Prop := ∃ d, P.underlying kt = some d /\ ((c = 0 /\ d = .bool) \/ (c = 1 /\ d = .string) \/ (c = 2 /\ ∃ k, d = .int k))
theorem ye {kt : TypeId} {c : Nat} (h : Ip P kt = some c) : UO P kt c := by
 unfold Ip at h
 cases hu : P.underlying kt with
 | none => simp [hu] at h
 | some d =>
  rw [hu] at h;refine ⟨d, hu, ?_⟩
  cases d <;> simp at h <;> subst h <;> simp
theorem gZ {kt : TypeId} {c : Nat} (h : UO P kt c) (b : Bool) (n : Nat) (v : Value) (w : World) : (Instr.checkKey b (n + 1) kt v).run P w = .ok () w := by
 obtain ⟨d, hu, h⟩ := h
 rcases h with ⟨_, rfl⟩ | ⟨_, rfl⟩ | ⟨_, k, rfl⟩ <;> simp [Instr.checkKey, run_underlying hu]
theorem xL : ∀ {a b : Int}, s4 a b = decide (a = b)
 | .ofNat a, .ofNat b => by
  simp only [s4]
  cases h : a.beq b with
  | true => simp [aV h]
  | false => have := kh h; simp; omega
 | .negSucc a, .negSucc b => by
  simp only [s4]
  cases h : a.beq b with
  | true => simp [aV h]
  | false => have := kh h; simp [this]
 | .ofNat a, .negSucc b => by simp [s4]
 | .negSucc a, .ofNat b => by simp [s4]
theorem O0 {k l : IntKind} (h : 2 + b6 k = 2 + b6 l) : k = l := jY (by rw [show b6 k = b6 l by omega]; exact dW _)
theorem Rc {kt : TypeId} {c : Nat} {d : TypeDesc} (hu : P.underlying kt = some d) (hd : (c = 0 /\ d = .bool) \/ (c = 1 /\ d = .string) \/ (c = 2 /\ ∃ k, d = .int k)) {k l : EV} {k' l' : Value} (hk : VR ρ k k') (hl : VR ρ l l') (tz : l7 c k = true) (hs : kY l = kY k) :
  Instr.sameNow d k' l' = some (EV.same k l) /\ (EV.same k l = true -> Instr.sameBits 10000 l' k' = true) := by
 cases hk <;> simp only [l7, rp] at tz
 case bool a =>
  cases hl <;> simp only [kY] at hs <;> (try (omega))
  ·have := aV tz; subst this
   rcases hd with ⟨_, rfl⟩ | ⟨h, _⟩ | ⟨h, _⟩
   ·exact ⟨rfl, fun h => by simp [EV.same] at h; simp [Instr.sameBits, h]⟩
   ·cases h
   ·cases h
 case int x a =>
  cases hl <;> simp only [kY] at hs <;> (try (exfalso; cases x <;> simp [b6] at hs; done))
  ·have := aV tz; subst this
   obtain rfl := O0 hs
   rcases hd with ⟨h, _⟩ | ⟨h, _⟩ | ⟨_, kk, rfl⟩
   ·cases h
   ·cases h
   ·refine ⟨?_, fun h => ?_⟩
    ·simp only [Instr.sameNow, if_true, EV.same, dW, cond_true, xL]; rfl
    ·simp only [EV.same, dW, cond_true, xL, decide_eq_true_eq] at h
     simp [Instr.sameBits, h]
 case str a =>
  cases hl <;> simp only [kY] at hs <;> (try omega)
  ·have := aV tz; subst this
   rcases hd with ⟨h, _⟩ | ⟨_, rfl⟩ | ⟨h, _⟩
   ·cases h
   ·refine ⟨?_, fun h => ?_⟩
    ·simp only [Instr.sameNow, EV.same, fH, bytes_beq]
    ·simp only [EV.same, fH, decide_eq_true_eq] at h
     simp [Instr.sameBits, bytes_beq, h]
   ·cases h
def G7 (ρ : eF) (es : List (EV × EV)) (ds : List MapEntry) : Prop := es.length = ds.length /\ ∀ (i : Nat) (e : EV × EV) (d : MapEntry), es[i]? = some e -> ds[i]? = some d -> Wg ρ e d
theorem G7.cons {e : EV × EV} {es : List (EV × EV)} {ds : List MapEntry} (h : G7 ρ (e :: es) ds) : ∃ d vo, ds = d :: vo /\ Wg ρ e d /\ G7 ρ es vo := by
 cases ds with
 | nil => have := h.1; simp at this
 | cons d vo => exact ⟨d, vo, rfl, h.2 0 e d rfl rfl, by have := h.1; simpa using this, fun i a b ha hb => h.2 (i + 1) a b (by simpa using ha) (by simpa using hb)⟩
theorem x7 {kt : TypeId} {c : Nat} {d : TypeDesc} (hu : P.underlying kt = some d) (hd : (c = 0 /\ d = .bool) \/ (c = 1 /\ d = .string) \/ (c = 2 /\ ∃ k, d = .int k)) {k : EV} {k' : Value} (hk : VR ρ k k') (tz : l7 c k = true) :
  ∀ (es : List (EV × EV)) (ds : List MapEntry) (i : Nat), G7 ρ es ds -> oB k es = true ->
   (Instr.findNow d k' ds i = some none /\ find k es = none /\ (∀ v, update k v es = es ++ [(k, v)]) /\ erase k es = es) \/
   (∃ j v v' old, Instr.findNow d k' ds i = some (some (i + j, v')) /\ find k es = some v /\ VR ρ v v' /\ ds[j]? = some old /\ old.val = v' /\ (∀ u, update k u es = es.set j (k, u)) /\ erase k es = es.eraseIdx j /\ j < es.length /\ Instr.sameBits 10000 old.key k' = true) := by
 intro es
 induction es with
 | nil =>
  intro ds i h _
  have : ds = [] := by have := h.1; simp at this; exact List.eq_nil_of_length_eq_zero this.symm
  subst this;exact .inl ⟨rfl, rfl, fun _ => rfl, rfl⟩
 | cons e es ih =>
  intro ds i h hs
  obtain ⟨x, vo, rfl, hx, hr⟩ := h.cons
  obtain ⟨l, u⟩ := e
  simp only [oB] at hs
  cases Rn : (kY l).beq (kY k) <;> simp only [Rn, cond_true, cond_false, rp] at hs
  obtain ⟨rT, SB⟩ := Rc hu hd hk hx.1 tz (aV Rn)
  cases hq : EV.same k l with
  | true =>
   right
   refine ⟨0, u, x.val, x, ?_, ?_, hx.2, rfl, rfl, fun z => ?_, ?_, by simp, SB hq⟩
   ·simp only [Instr.findNow, rT, hq]; rfl
   ·simp [find, hq]
   ·simp [update, hq]
   ·simp [erase, hq]
  | false =>
   rcases ih vo (i + 1) hr hs with ⟨a1, a2, a3, a4⟩ | ⟨j, v, v', old, a1, a2, a3, a4, a5, a6, a7, a8, a9⟩
   ·left
    refine ⟨?_, by simp [find, hq, a2], fun z => by simp [update, hq, a3], by simp [erase, hq, a4]⟩
    simp only [Instr.findNow, rT, hq]; exact a1
   ·right
    refine ⟨j + 1, v, v', old, ?_, by simp [find, hq, a2], a3, by simpa using a4, a5, fun z => by simp [update, hq, a6], by simp [erase, hq, a7], by simp; omega, a9⟩
    simp only [Instr.findNow, rT, hq];rw [a1]; congr 3; omega
theorem tt {c : Nat} {k : EV} {es : List (EV × EV)} (h : iU c k es = true) : l7 c k = true /\ oB k es = true := by
 unfold iU at h
 cases hk : l7 c k <;> simp only [hk, cond_true, cond_false, rp] at h
 exact ⟨rfl, h⟩
theorem HN (hR : R base ρ m w) {b : Nat} {L : Loc} (hL : ρ b = some L) {es : List (EV × EV)} (hm : m.get b = .map es) : ∃ ds c, w.heap[L.dj]? = some (.map ds c) /\ G7 ρ es ds.toList /\ base <= L.dj /\ L.ro = false := by
 have := hR.dj b L hL
 rw [hm] at this;obtain ⟨ds, c, h1, h2, h3, h4⟩ := this
 exact ⟨ds, c, h1, ⟨by simpa using h2, fun i e d he hd => h3 i e d he (by simpa using hd)⟩, h4⟩
theorem wA (hR : R base ρ m w) {b : Nat} {L : Loc} (hL : ρ b = some L) {es fs : List (EV × EV)} (hm : m.get b = .map es) {ds gs : Array MapEntry} {c c' : Nat} (hw : w.heap[L.dj]? = some (.map ds c)) (he : G7 ρ fs gs.toList) (JW : base <= L.dj) (rj : L.ro = false) :
  R base ρ (m.set b (.map fs)) { w with heap := w.heap.setIfInBounds L.dj (.map gs c') } /\ Step ρ m w ρ (m.set b (.map fs)) { w with heap := w.heap.setIfInBounds L.dj (.map gs c') } := by
 have xu : Live m b := by unfold Live; rw [hm]; simp
 have ma : ∀ d, d ≠ b -> (m.set b (.map fs)).get d = m.get d := fun d hd => by rw [Mem.bY, if_neg hd]
 have EQ : ∀ d, Live (m.set b (.map fs)) d -> Live m d := by
  intro d hd
  by_cases e : d = b
  ·subst e; exact xu
  ·unfold Live at hd ⊢; rwa [ma d e] at hd
 have bg : L.dj < w.heap.size := (Array.getElem?_eq_some_iff.1 hw).1
 have HZ : ∀ k, k ≠ L.dj -> (w.heap.setIfInBounds L.dj (.map gs c'))[k]? = w.heap[k]? := fun k hk => by rw [Array.getElem?_setIfInBounds_ne (by omega)]
 refine ⟨⟨hR.lt, fun d M hM => ?_, fun d f M M' h1 h2 h3 h4 => hR.inj d f M M' h1 h2 (EQ d h3) (EQ f h4), by simpa using hR.base, fun d hd => by rw [ma d (fun e => by subst e; have := hR.lt _ _ hL; rw [Mem.cq] at hd; omega)]; exact hR.clean d hd⟩,
  ⟨.refl ρ, fun _ h h' => absurd h h', eX _, fun d hd hn => ma d (fun e => by subst e; rw [hL] at hn; cases hn), fun d _ hd => by rw [ma d (fun e => by subst e; rw [hm] at hd; cases hd)]; exact hd, by simp, fun i hi => ?_, fun i hi hr => HZ i (fun e => hr ⟨b, L, hL, xu, rj, e.symm⟩), rfl, rfl, rfl⟩⟩
 ·by_cases e : d = b
  ·subst e
   rw [hL] at hM; cases hM
   rw [Mem.bY, if_pos rfl];refine ⟨gs, c', by simp [bg], by simpa using he.1, fun i x y hx hy => he.2 i x y hx (by simpa using hy), JW, rj⟩
  ·rw [ma d e]
   by_cases hl : m.get d = .dead
   ·rw [hl]; trivial
   ·have iJ : M.dj ≠ L.dj := fun xx => e (hR.inj b d L M hL hM xu hl rj xx.symm).symm
    exact (hR.dj d M hM).of_heap (.refl ρ) (HZ _ iJ)
 ·rintro ⟨d, M, hM, h1, h2, h3⟩
  exact ⟨d, M, hM, EQ d h1, h2, h3⟩
theorem run_getObj_map {r : Nat} {ds : Array MapEntry} {c : Nat} (h : w.heap[r]? = some (.map ds c)) : (getObj r).run P w = .ok (.map ds c) w := by
 simp only [getObj, Sem.run, h]
theorem run_setObj_map {r : Nat} {ds : Array MapEntry} {c : Nat} (h : w.heap[r]? = some (.map ds c)) (o : Obj) : (setObj r o).run P w = .ok () { w with heap := w.heap.setIfInBounds r o } := by
 simp only [setObj, Sem.run, h]
theorem HP (hR : R base ρ m w) {t kt e : TypeId} {c : Nat} (ht : P.underlying t = some (.map kt e)) (hc : Ip P kt = some c) {z : EV} (hz : G3 P e = some z) {mp k : EV} {Uq k' : Value} (XJ : VR ρ mp Uq) (hk : VR ρ k k') {ok : Bool} {fr : aZ -> EV} {om Uk : aZ} (e1 : fr om = mp) (e2 : fr Uk = k) {v : EV} {m' : Mem}
  (h : aF fr (.lookup c z ok om Uk) m = some (.val v m')) : As P (Instr.lookup t Uq k' ok) base ρ m w v m' := by
 obtain ⟨zv, z1, z2⟩ := DT (ρ := ρ) hz
 have Pd := ye hc
 have Ry := Pd
 obtain ⟨d, hu, hd⟩ := Ry
 simp only [aF, e1, e2] at h
 cases XJ <;> simp only [reduceCtorEq] at h
 case bF =>
  cases tz : l7 c k <;> simp only [tz, cond_true, cond_false, reduceCtorEq, bj, R1.val.injEq] at h
  obtain ⟨rfl, rfl⟩ := h
  refine ⟨ρ, w, if ok then .tuple #[zv, .bool false] else zv, ?_, ?_, hR, .refl _ _ _⟩
  ·simp only [Instr.lookup, Sem.run_bind, run_underlying ht, Result.andThen_ok, Sem.run_pure, gZ Pd, Instr.findKey, run_underlying hu, Instr.findNow, z1]
  ·cases ok
   ·exact z2
   ·exact .tuple (.cons z2 (.cons (.bool _) .nil))
 case map b L hL =>
  cases hm : m.get b with
  | dead => simp [hm] at h
  | cells => simp [hm] at h
  | map es =>
  simp only [hm] at h
  cases PS : iU c k es <;> simp only [PS, cond_true, cond_false, reduceCtorEq] at h
  obtain ⟨tz, Rn⟩ := tt PS
  obtain ⟨ds, cl, hw, uF, _, _⟩ := HN hR hL hm
  rcases x7 hu hd hk tz es ds.toList 0 uF Rn with ⟨a1, a2, _, _⟩ | ⟨j, x, x', old, a1, a2, a3, a4, a5, _⟩
  ·simp only [a2, bj, R1.val.injEq] at h
   obtain ⟨rfl, rfl⟩ := h
   refine ⟨ρ, w, if ok then .tuple #[zv, .bool false] else zv, ?_, ?_, hR, .refl _ _ _⟩
   ·simp only [Instr.lookup, Sem.run_bind, run_underlying ht, Result.andThen_ok, Sem.run_pure, run_getObj_map hw, gZ Pd, Instr.findKey, run_underlying hu, a1, z1]
   ·cases ok
    ·exact z2
    ·exact .tuple (.cons z2 (.cons (.bool _) .nil))
  ·simp only [a2, bj, R1.val.injEq] at h
   obtain ⟨rfl, rfl⟩ := h
   refine ⟨ρ, w, if ok then .tuple #[x', .bool true] else x', ?_, ?_, hR, .refl _ _ _⟩
   ·simp only [Instr.lookup, Sem.run_bind, run_underlying ht, Result.andThen_ok, Sem.run_pure, run_getObj_map hw, gZ Pd, Instr.findKey, run_underlying hu, a1]
   ·cases ok
    ·exact a3
    ·exact .tuple (.cons a3 (.cons (.bool _) .nil))
theorem zg (hR : R base ρ m w) {t kt e : TypeId} {c : Nat} (ht : P.underlying t = some (.map kt e)) (hc : Ip P kt = some c) {mp k x : EV} {Uq k' x' : Value} (XJ : VR ρ mp Uq) (hk : VR ρ k k') (hx : VR ρ x x') {fr : aZ -> EV} {om Uk ox : aZ} (e1 : fr om = mp) (e2 : fr Uk = k) (e3 : fr ox = x) {v : EV} {m' : Mem}
  (h : aF fr (.pq c om Uk ox) m = some (.val v m')) : ∃ w', (Instr.mapUpdate t Uq k' x').run P w = .ok () w' /\ v = .undef /\ R base ρ m' w' /\ Step ρ m w ρ m' w' := by
 have Pd := ye hc
 have Ry := Pd
 obtain ⟨d, hu, hd⟩ := Ry
 simp only [aF, e1, e2, e3] at h
 cases XJ <;> simp only [reduceCtorEq] at h
 case map b L hL =>
  cases hm : m.get b with
  | dead => simp [hm] at h
  | cells => simp [hm] at h
  | map es =>
  simp only [hm] at h
  cases PS : iU c k es <;> simp only [PS, cond_true, cond_false, reduceCtorEq, bj, R1.val.injEq] at h
  obtain ⟨tz, Rn⟩ := tt PS
  obtain ⟨rfl, rfl⟩ := h
  obtain ⟨ds, cl, hw, uF, hb, rj⟩ := HN hR hL hm
  rcases x7 hu hd hk tz es ds.toList 0 uF Rn with ⟨a1, _, a3, _⟩ | ⟨j, y, y', old, a1, _, _, a4, a5, a6, _, a8, a9⟩
  ·obtain ⟨q1, q2⟩ := wA (c' := cl + 1) hR hL hm hw (fs := update k x es) (gs := ds.push { key := k', val := x', born := cl }) (by
    rw [a3];refine ⟨by simp [uF.1], fun i p q hp hq => ?_⟩
    simp only [Array.toList_push] at hq;by_cases hi : i < es.length
    ·rw [B8 hi] at hp
     rw [B8 (by rw [<- uF.1]; exact hi)] at hq
     exact uF.2 i p q hp hq
    ·rw [FF (by omega)] at hp
     rw [FF (by rw [<- uF.1]; omega), <- uF.1] at hq
     have h0 : i - es.length = 0 := by
      have := (rn.1 hp).1
      simp at this; omega
     rw [h0] at hp hq;simp at hp hq
     subst hp hq
     exact ⟨hk, hx⟩) hb rj
   refine ⟨_, ?_, rfl, q1, q2⟩
   simp only [Instr.mapUpdate, Sem.run_bind, run_underlying ht, Result.andThen_ok, Sem.run_pure, run_getObj_map hw, gZ Pd, Instr.findKey, run_underlying hu, a1, run_setObj_map hw]
  ·have WG : j < ds.size := by have := uF.1; simp at this; omega
   have CV : ds[j]? = some old := by simpa using a4
   obtain ⟨q1, q2⟩ := wA (c' := cl) hR hL hm hw (fs := update k x es) (gs := ds.modify j fun e => { e with key := k', val := x' }) (by
    rw [a6];refine ⟨by simp; simpa using uF.1, fun i p q hp hq => ?_⟩
    rw [Array.getElem?_toList, Array.getElem?_modify] at hq;rw [List.getElem?_set] at hp;by_cases UC : j = i
    ·subst UC
     rw [if_pos rfl, if_pos a8] at hp;rw [if_pos rfl, CV] at hq
     cases hp; cases hq
     exact ⟨hk, hx⟩
    ·rw [if_neg UC] at hp
     rw [if_neg UC] at hq;exact uF.2 i p q hp (by simpa using hq)) hb rj
   refine ⟨_, ?_, rfl, q1, q2⟩
   simp only [Instr.mapUpdate, Sem.run_bind, run_underlying ht, Result.andThen_ok, Sem.run_pure, run_getObj_map hw, gZ Pd, Instr.findKey, run_underlying hu, a1, Nat.zero_add, CV, Option.map_some, Option.getD_some, Instr.keyThatStays, a9, if_true, run_setObj_map hw]
theorem Ij (hR : R base ρ m w) {t u kt e : TypeId} {c : Nat} (ht : P.underlying t = some (.map kt e)) (hc : Ip P kt = some c) {mp k : EV} {Uq k' : Value} (XJ : VR ρ mp Uq) (hk : VR ρ k k') {fr : aZ -> EV} {om Uk : aZ} (e1 : fr om = mp) (e2 : fr Uk = k) {v : EV} {m' : Mem} (ty : TypeId)
  (h : aF fr (.delete c om Uk) m = some (.val v m')) : As P (Builtin.delete_ #[t, u] ty #[Uq, k']) base ρ m w v m' := by
 have Pd := ye hc
 have Ry := Pd
 obtain ⟨d, hu, hd⟩ := Ry
 simp only [aF, e1, e2] at h
 cases XJ <;> simp only [reduceCtorEq] at h
 case bF =>
  cases tz : l7 c k <;> simp only [tz, cond_true, cond_false, reduceCtorEq, bj, R1.val.injEq] at h
  obtain ⟨rfl, rfl⟩ := h
  refine ⟨ρ, w, .tuple #[], ?_, .tuple .nil, hR, .refl _ _ _⟩
  simp only [Builtin.delete_, List.getElem?_toArray, List.getElem?_cons_zero, List.getElem?_cons_succ, Sem.run_bind, run_underlying ht, Result.andThen_ok, gZ Pd, Sem.run_pure]
 case map b L hL =>
  cases hm : m.get b with
  | dead => simp [hm] at h
  | cells => simp [hm] at h
  | map es =>
  simp only [hm] at h
  cases PS : iU c k es <;> simp only [PS, cond_true, cond_false, reduceCtorEq, bj, R1.val.injEq] at h
  obtain ⟨tz, Rn⟩ := tt PS
  obtain ⟨rfl, rfl⟩ := h
  obtain ⟨ds, cl, hw, uF, hb, rj⟩ := HN hR hL hm
  rcases x7 hu hd hk tz es ds.toList 0 uF Rn with ⟨a1, _, _, a4⟩ | ⟨j, y, y', old, a1, _, _, a4, _, _, a7, a8, _⟩
  ·obtain ⟨q1, q2⟩ := wA (c' := cl) hR hL hm hw (fs := erase k es) (gs := ds) (by rw [a4]; exact uF) hb rj
   refine ⟨ρ, _, .tuple #[], ?_, .tuple .nil, q1, q2⟩
   simp only [Builtin.delete_, List.getElem?_toArray, List.getElem?_cons_zero, List.getElem?_cons_succ, Sem.run_bind, run_underlying ht, Result.andThen_ok, run_getObj_map hw, gZ Pd, Instr.findKey, run_underlying hu, a1, Sem.run_pure, run_setObj_map hw]
  ·obtain ⟨q1, q2⟩ := wA (c' := cl) hR hL hm hw (fs := erase k es) (gs := ds.eraseIdxIfInBounds j) (by
    rw [a7];have WG : j < ds.size := by have := uF.1; simp at this; omega
    have hl : (ds.eraseIdxIfInBounds j).toList = ds.toList.eraseIdx j := by
     simp [Array.eraseIdxIfInBounds, WG]
    rw [hl];refine ⟨by rw [List.length_eraseIdx, List.length_eraseIdx, uF.1], fun i p q hp hq => ?_⟩
    rw [List.getElem?_eraseIdx] at hp hq;by_cases UC : i < j
    ·rw [if_pos UC] at hp hq; exact uF.2 i p q hp hq
    ·rw [if_neg UC] at hp hq; exact uF.2 (i + 1) p q hp hq) hb rj
   refine ⟨ρ, _, .tuple #[], ?_, .tuple .nil, q1, q2⟩
   simp only [Builtin.delete_, List.getElem?_toArray, List.getElem?_cons_zero, List.getElem?_cons_succ, Sem.run_bind, run_underlying ht, Result.andThen_ok, run_getObj_map hw, gZ Pd, Instr.findKey, run_underlying hu, a1, Sem.run_pure, Nat.zero_add, run_setObj_map hw]
theorem QW : ∀ (l : List EV) (l' : List Value) (k : IntKind) (x : Int) (v : EV), fB ρ l l' -> lV k x l = some v -> ∃ v', VR ρ v v' /\ (l'.foldlM Builtin.max2 (.int k x)).run P w = .ok v' w := by
 intro l
 induction l with
 | nil => intro l' k x v hl h; cases hl; simp [lV] at h; subst h; exact ⟨_, .int _ _, rfl⟩
 | cons y l ih =>
  intro l' k x v hl h
  cases hl with
  | cons hy hs =>
  cases hy with
  | int k2 n =>
   simp only [lV] at h
   cases hk : (b6 k).beq (b6 k2) <;> simp only [hk, cond_true, cond_false, reduceCtorEq] at h
   obtain rfl := jY hk
   obtain ⟨v', h1, h2⟩ := ih _ k _ v hs h
   exact ⟨v', h1, by simp only [List.foldlM_cons, Builtin.max2, Sem.run_bind, Sem.run_pure, Result.andThen_ok, h2]⟩
  | _ => simp [lV] at h
theorem QT : ∀ (l : List EV) (l' : List Value) (k : IntKind) (x : Int) (v : EV), fB ρ l l' -> ni k x l = some v -> ∃ v', VR ρ v v' /\ (l'.foldlM Builtin.min2 (.int k x)).run P w = .ok v' w := by
 intro l
 induction l with
 | nil => intro l' k x v hl h; cases hl; simp [ni] at h; subst h; exact ⟨_, .int _ _, rfl⟩
 | cons y l ih =>
  intro l' k x v hl h
  cases hl with
  | cons hy hs =>
  cases hy with
  | int k2 n =>
   simp only [ni] at h
   cases hk : (b6 k).beq (b6 k2) <;> simp only [hk, cond_true, cond_false, reduceCtorEq] at h
   obtain rfl := jY hk
   obtain ⟨v', h1, h2⟩ := ih _ k _ v hs h
   exact ⟨v', h1, by simp only [List.foldlM_cons, Builtin.min2, Sem.run_bind, Sem.run_pure, Result.andThen_ok, h2]⟩
  | _ => simp [ni] at h
theorem OV {l : List EV} {l' : List Value} (hl : fB ρ l l') {v : EV} (h : uu l = some v) (a : Array TypeId) (t : TypeId) : ∃ v', VR ρ v v' /\ (Builtin.max_ a t ⟨l'⟩).run P w = .ok v' w := by
 cases hl with
 | nil => simp [uu] at h
 | cons hx hs =>
  cases hx with
  | int k n => exact QW _ _ k n v hs h
  | _ => simp [uu] at h
theorem OT {l : List EV} {l' : List Value} (hl : fB ρ l l') {v : EV} (h : xG l = some v) (a : Array TypeId) (t : TypeId) : ∃ v', VR ρ v v' /\ (Builtin.min_ a t ⟨l'⟩).run P w = .ok v' w := by
 cases hl with
 | nil => simp [xG] at h
 | cons hx hs =>
  cases hx with
  | int k n => exact QT _ _ k n v hs h
  | _ => simp [xG] at h
end
end
section
section
variable {G : List Nat} {base : Nat} {ρ : eF} {m : Mem} {w : World} {P : Program} {n : Nat} {fr : Fr} {a : Act}
theorem fU {v : EV} {m m' : Mem} {x : Option EV} (h : gA m x = some (.val v m')) : x = some v /\ m' = m := by
 unfold gA at h;obtain ⟨y, hy, h2⟩ := kr.1 h
 cases h2
 exact ⟨hy, rfl⟩
theorem lO {v : EV} {m' : Mem} {x : Option (EV × Mem)} (h : xn x = some (.val v m')) : x = some (v, m') := by
 unfold xn at h;obtain ⟨y, hy, h2⟩ := kr.1 h
 cases h2
 exact hy
theorem Ta {v : EV} {m' : Mem} {x : Option Mem} (h : ofM x = some (.val v m')) : x = some m' /\ v = .undef := by
 unfold ofM at h;obtain ⟨y, hy, h2⟩ := kr.1 h
 cases h2
 exact ⟨hy, rfl⟩
theorem ag {α β : Type} {x : Option α} {f : α -> β} {y : β} (h : x.map f = some y) : ∃ a, x = some a /\ f a = y := kr.1 h
theorem RZ {op : BinOp} {neg : Bool} (lJ : (op = .eql /\ neg = false) \/ (op = .neq /\ neg = true)) {t : TypeId} {e : su} (he : nO P 20 t = some e) (nY : P.eqGuardType P.depth t = false \/ ∃ ms, P.underlying t = some (.interface ms)) {ox oy : Operand} {x y : EV} {x' y' : Value} (hx : VR ρ x x') (hy : VR ρ y y') {b : Bool} (h : eO e x y = some b) :
  ((do eqGuard op t ox oy x' y'; binOp op t x' y') : Sem Value).run P w = .ok (.bool (neg ^^ b)) w := by
 have hr := L4 (P := P) (w := w) 20 t e he Op.maxDepth (by decide) x y x' y' hx hy b h
 have VJ : (eqGuard op t ox oy x' y').run P w = .ok () w := by
  cases hx with
  | agg hv hf =>
   cases hy with
   | agg rS hf' =>
    rcases nY with nY | ⟨ms, YW⟩
    ·rcases lJ with ⟨rfl, rfl⟩ | ⟨rfl, rfl⟩ <;> simp [eqGuard, nY]
    ·simp [nO, YW] at he
     subst he;simp [eO, dU] at h
   | undef => cases e <;> simp [eO, dU] at h
   | _ => rcases lJ with ⟨rfl, rfl⟩ | ⟨rfl, rfl⟩ <;> rfl
  | undef => cases e <;> simp [eO, dU] at h
  | aJ =>
   cases hy with
   | aJ =>
    exfalso
    cases e with
    | aL k => simp [eO, dU] at h
    | agg es => simp [eO] at h
   | undef => cases e <;> simp [eO, dU] at h
   | _ => rcases lJ with ⟨rfl, rfl⟩ | ⟨rfl, rfl⟩ <;> rfl
  | _ => rcases lJ with ⟨rfl, rfl⟩ | ⟨rfl, rfl⟩ <;> rfl
 simp only [Sem.run_bind, VJ, Result.andThen_ok]
 -- whole numbers and strings are Yq by other ways
 cases hx with
 | int k z =>
  cases hy with
  | int l u =>
   cases e with
   | agg es => simp [eO] at h
   | aL q =>
    simp only [eO, dU] at h
    cases hq : q.beq 1 <;> simp only [hq, cond_true, cond_false, reduceCtorEq] at h
    cases hk : (b6 k).beq (b6 l) <;> simp only [hk, cond_true, cond_false, reduceCtorEq, bj] at h
    obtain rfl := jY hk
    subst h;rcases lJ with ⟨rfl, rfl⟩ | ⟨rfl, rfl⟩
    ·simp [binOp, Op.intCmp]; rfl
    ·simp [binOp, Op.intCmp]; rfl
  | _ => cases e <;> simp [eO, dU] at h
 | str s =>
  cases hy with
  | str s2 =>
   cases e with
   | agg es => simp [eO] at h
   | aL q =>
    simp only [eO, dU] at h
    cases hq : q.beq 2 <;> simp only [hq, cond_true, cond_false, reduceCtorEq, bj] at h
    subst h;rcases lJ with ⟨rfl, rfl⟩ | ⟨rfl, rfl⟩ <;> simp only [binOp, Op.stringOp, yg, fH, ED] <;> simp
  | _ => cases e <;> simp [eO, dU] at h
 | _ =>
  cases hy <;> (first
   | (cases e <;> simp [eO, dU] at h; done)
   | (rcases lJ with ⟨rfl, rfl⟩ | ⟨rfl, rfl⟩
      ·simp only [binOp, Op.equal, Sem.run_bind, hr, Result.andThen_ok, Sem.run_pure]; simp
      ·simp only [binOp, Op.equal, Sem.run_bind, hr, Result.andThen_ok, Sem.run_pure]; simp))
theorem Kq {o : Oper} {c : Go.Call} (ho : o.op = .call c) {b : Builtin} (hb : c.callee = .builtin b) :
  execOp a.eval o = builtin b c.argTypes o.type (c.args.map fun | .const _ => true | _ => false) (c.args.map a.eval) := by
 simp only [execOp, ho, resolve, hb]
 rfl
theorem OY (hR : R base ρ m w) {t ty : TypeId} {e : TypeId} (hu : P.underlying t = some (.slice e)) {x : EV} {x' : Value} (hx : VR ρ x x') {v : EV} {fr : aZ -> EV} {ox : aZ} (e1 : fr ox = x) {m' : Mem} (h : aF fr (.len ox) m = some (.val v m')) :
  As P (Builtin.len_ #[t] ty #[x']) base ρ m w v m' := by
 simp only [aF, e1] at h
 cases hx <;> simp only [reduceCtorEq, bj, R1.val.injEq] at h
 all_goals
  obtain ⟨rfl, rfl⟩ := h
  exact ⟨ρ, w, _, by simp only [Builtin.len_, List.getElem?_toArray, List.getElem?_cons_zero, Sem.run_bind, run_underlying hu, Result.andThen_ok, Sem.run_pure, goInt] <;> rfl, .int _ _, hR, .refl _ _ _⟩
theorem HS (hR : R base ρ m w) {t ty : TypeId} (hu : P.underlying t = some .string) {x : EV} {x' : Value} (hx : VR ρ x x') {v : EV} {fr : aZ -> EV} {ox : aZ} (e1 : fr ox = x) {m' : Mem} (h : aF fr (.cH ox) m = some (.val v m')) :
  As P (Builtin.len_ #[t] ty #[x']) base ρ m w v m' := by
 simp only [aF, e1] at h
 cases hx <;> simp only [reduceCtorEq, bj, R1.val.injEq] at h
 case str s =>
  obtain ⟨rfl, rfl⟩ := h
  exact ⟨ρ, w, .int .i64 (s.size : Int), by simp [Builtin.len_, run_underlying hu, goInt], .int _ _, hR, .refl _ _ _⟩
theorem HT (hR : R base ρ m w) {t ty k e : TypeId} (hu : P.underlying t = some (.map k e)) {x : EV} {x' : Value} (hx : VR ρ x x') {v : EV} {fr : aZ -> EV} {ox : aZ} (e1 : fr ox = x) {m' : Mem} (h : aF fr (.ri ox) m = some (.val v m')) :
  As P (Builtin.len_ #[t] ty #[x']) base ρ m w v m' := by
 simp only [aF, e1] at h
 cases hx <;> simp only [reduceCtorEq, bj, R1.val.injEq] at h
 case bF =>
  obtain ⟨rfl, rfl⟩ := h
  exact ⟨ρ, w, _, by simp only [Builtin.len_, List.getElem?_toArray, List.getElem?_cons_zero, Sem.run_bind, run_underlying hu, Result.andThen_ok, Sem.run_pure, goInt] <;> rfl, .int _ _, hR, .refl _ _ _⟩
 case map b L hL =>
  cases hm : m.get b with
  | dead => simp [hm] at h
  | cells => simp [hm] at h
  | map es =>
   simp only [hm, bj, R1.val.injEq] at h;obtain ⟨rfl, rfl⟩ := h
   obtain ⟨ds, c, hw, he, _⟩ := HN hR hL hm
   refine ⟨ρ, w, .int .i64 (ds.size : Int), ?_, ?_, hR, .refl _ _ _⟩
   ·simp [Builtin.len_, run_underlying hu, goInt, run_getObj_map hw]
   ·have := he.1
    simp at this
    rw [this]; exact .int _ _
theorem F7 (hR : R base ρ m w) {b : Builtin} {ts : List TypeId} {FG : List Value} {ys : List aZ} (hv : fB ρ (ys.map fr.eval) FG) {io : lL} (hc : vu P b ts ys = some io) (ty : TypeId) (cs : Array Bool) {v : EV} {m' : Mem} (h : aF fr.eval io m = some (.val v m')) :
  Good base ρ m w v m' ((builtin b ⟨ts⟩ ty cs ⟨FG⟩).run P w) := by
 unfold vu at hc
 split at hc
 ·-- len
  rename_i t x
  cases hv with
  | cons hx hn =>
  cases hn
  cases hu : P.underlying t with
  | none => simp [hu] at hc
  | some d =>
   rw [hu] at hc
   cases d <;> simp only [reduceCtorEq, bj] at hc <;> subst hc
   case string => exact (HS hR hu hx rfl h).uC
   case slice e => exact (OY hR hu hx rfl h).uC
   case map k e => exact (HT hR hu hx rfl h).uC
   case array k e =>
    simp only [aF, bj, R1.val.injEq] at h;obtain ⟨rfl, rfl⟩ := h
    exact Good.still (s := Builtin.len_ #[t] ty #[_]) hR (by simp [Builtin.len_, run_underlying hu, goInt]) (.int _ _)
 ·-- cap
  rename_i t x
  cases hv with
  | cons hx hn =>
  cases hn
  cases hu : P.underlying t with
  | none => simp [hu] at hc
  | some d =>
   rw [hu] at hc
   cases d <;> simp only [reduceCtorEq, bj] at hc
   subst hc;simp only [aF] at h;generalize rU : fr.eval x = e at hx h
   cases hx <;> simp only [reduceCtorEq, bj, R1.val.injEq] at h
   all_goals
    obtain ⟨rfl, rfl⟩ := h
    exact Good.still (s := Builtin.cap_ #[t] ty #[_]) hR (by simp [Builtin.cap_, run_underlying hu, goInt]) (.int _ _)
 ·-- max
  cases hc
  simp only [aF] at h;obtain ⟨h1, rfl⟩ := fU h
  obtain ⟨v', r1, r2⟩ := OV (P := P) (w := w) hv h1 ⟨ts⟩ ty
  exact Good.still (s := Builtin.max_ ⟨ts⟩ ty ⟨FG⟩) hR r2 r1
 ·cases hc
  simp only [aF] at h;obtain ⟨h1, rfl⟩ := fU h
  obtain ⟨v', r1, r2⟩ := OT (P := P) (w := w) hv h1 ⟨ts⟩ ty
  exact Good.still (s := Builtin.min_ ⟨ts⟩ ty ⟨FG⟩) hR r2 r1
 ·-- append
  rename_i t u s x
  cases hv with
  | cons hs hn =>
  cases hn with
  | cons hx hn =>
  cases hn
  obtain ⟨e, he, hc⟩ := Option.bind_eq_some_iff.1 hc
  obtain ⟨_, jM, hc⟩ := Option.bind_eq_some_iff.1 hc
  obtain ⟨i, hi, hc⟩ := Option.bind_eq_some_iff.1 hc
  obtain ⟨z, hz, hc⟩ := Option.bind_eq_some_iff.1 hc
  obtain ⟨_, hq, hc⟩ := Option.bind_eq_some_iff.1 hc
  cases GK : z.length.beq i.size <;> simp only [GK, cond_true, cond_false, reduceCtorEq] at hq
  cases hb : i.bytes.ble 65536 <;> simp only [hb, cond_true, cond_false, reduceCtorEq, bj] at hc
  subst hc;have ht : P.underlying t = some (.slice e) := by
   unfold MD at he
   split at he
   ·cases he; assumption
   ·cases he
  have GO : ∃ du, P.underlying u = some du /\ ((∃ v, du = .slice v) \/ du = .string) := by
   unfold Uh at jM
   split at jM
   ·exact ⟨_, by assumption, .inl ⟨_, rfl⟩⟩
   ·exact ⟨_, by assumption, .inr rfl⟩
   ·cases jM
  obtain ⟨du, hu, GO⟩ := GO
  simp only [aF] at h;have abK := Iy (P := P) hR ht hu GO hi hz (aV GK) (rc hb) hs hx (lO h)
  obtain ⟨ρ', w', v', r1, r2⟩ := abK
  exact (show As P (Builtin.append_ #[t, u] ty #[_, _]) base ρ m w v m' from ⟨ρ', w', v', r1, r2⟩).uC
 ·-- copy
  rename_i t u s x
  cases hv with
  | cons hs hn =>
  cases hn with
  | cons hx hn =>
  cases hn
  cases ht : P.underlying t with
  | none => simp [ht] at hc
  | some dt =>
   rw [ht] at hc
   cases dt <;> simp only [reduceCtorEq] at hc
   rename_i e
   cases hz : gi P e with
   | none => simp [hz] at hc
   | some k =>
    simp only [hz, bj] at hc;subst hc;simp only [aF] at h;obtain ⟨ρ', w', v', r1, r2⟩ := L9 (P := P) (u := u) hR ht hz hs hx (lO h)
    exact (show As P (Builtin.copy_ #[t, u] ty #[_, _]) base ρ m w v m' from ⟨ρ', w', v', r1, r2⟩).uC
 ·-- delete
  rename_i t u s x
  cases hv with
  | cons hs hn =>
  cases hn with
  | cons hx hn =>
  cases hn
  cases ht : P.underlying t with
  | none => simp [ht] at hc
  | some dt =>
   rw [ht] at hc
   cases dt <;> simp only [reduceCtorEq] at hc
   rename_i kt e
   obtain ⟨c, hk, rfl⟩ := ag hc
   exact (Ij (P := P) (u := u) hR ht hk hs hx rfl rfl ty h).uC
 ·cases hc
theorem Good.Ew {v : EV} {s : Sem Value} (hR : R base ρ m w) (h : ∃ v', VR ρ v v' /\ s.run P w = .ok v' w) : Good base ρ m w v m ((do pure (Next.value (<- s)) : Sem Next).run P w) :=
 let ⟨_, h1, h2⟩ := h; Good.still hR h2 h1
theorem kf {t e : TypeId} (h : uK P t = some e) : P.underlying t = some (.slice e) := by
 unfold uK at h; split at h <;> cases h; assumption
theorem vE {t : TypeId} {q : Nat × TypeId} (h : AJ P t = some q) : P.underlying t = some (.array q.1 q.2) := by
 unfold AJ at h; split at h <;> cases h; assumption
theorem xJ {t : TypeId} {fs : Array Field} (h : yq P t = some fs) : P.underlying t = some (.struct fs) := by
 unfold yq at h; split at h <;> cases h; assumption
theorem yr {t : TypeId} {q : TypeId × TypeId} (h : KN P t = some q) : P.underlying t = some (.map q.1 q.2) := by
 unfold KN at h; split at h <;> cases h; assumption
theorem kX {t : TypeId} {u : Unit} (h : pW P t = some u) : P.underlying t = some .string := by
 unfold pW at h; split at h <;> cases h; assumption
theorem Cc {t : TypeId} {k : IntKind} (h : P7 P t = some k) : P.underlying t = some (.int k) := by
 unfold P7 at h; split at h <;> cases h; assumption
theorem Ol {t : TypeId} {u : Unit} (h : KO P t = some u) : ∃ ms, P.underlying t = some (.interface ms) := by
 unfold KO at h; split at h <;> cases h; exact ⟨_, by assumption⟩
theorem AI {t : TypeId} {u : Unit} (h : D4 P t = some u) : ∃ d, P.underlying t = some d /\ ∀ ms, d ≠ .interface ms := by
 unfold D4 at h
 cases hu : P.underlying t with
 | none => rw [hu] at h; cases h
 | some d => rw [hu] at h; refine ⟨d, rfl, fun ms e => ?_⟩; subst e; cases h
theorem jy {b : Bool} {u : Unit} (h : AS b = some u) : b = true := by
 unfold AS at h; cases b <;> simp at h; rfl
theorem fX {x y : Option lL} {r : lL} (h : Su x y = some r) : x = some r \/ y = some r := by
 unfold Su at h
 cases x with
 | none => exact .inr h
 | some z => exact .inl h
theorem af {α β : Type} {x : Option α} {f : α -> Option β} {y : β} (h : x.bind f = some y) : ∃ a, x = some a /\ f a = some y := Option.bind_eq_some_iff.1 h
theorem Et {o : Oper} {io : lL} (hc : UK P G o = some io) (hG : jJ G ρ) (hR : R base ρ m w) (hF : FR ρ n fr a) {v : EV} {m' : Mem} (h : aF fr.eval io m = some (.val v m')) :
  Good base ρ m w v m' ((execOp a.eval o).run P w) := by
 have E : ∀ {x : Operand} {y : aZ}, ff G x = some y -> VR ρ (fr.eval y) (a.eval x) := fun h => iu hG hF h
 have EO : ∀ {x : Option Operand} {y : Option aZ}, Km G x = some y -> uj ρ (y.map fr.eval) (x.map a.eval) := fun h => Mj hG hF h
 unfold UK at hc
 split at hc
 case h_1 x ho =>
  obtain ⟨y, hy, rfl⟩ := ag hc
  simp only [aF, bj, R1.val.injEq] at h;obtain ⟨rfl, rfl⟩ := h
  exact ⟨ρ, w, a.eval x, .inl (by simp only [execOp, ho]; rfl), E hy, hR, .refl _ _ _⟩
 case h_2 x ho =>
  obtain ⟨y, hy, rfl⟩ := ag hc
  simp only [aF, bj, R1.val.injEq] at h;obtain ⟨rfl, rfl⟩ := h
  exact ⟨ρ, w, a.eval x, .inl (by simp only [execOp, ho]; rfl), E hy, hR, .refl _ _ _⟩
 case h_3 c x y ho =>
  obtain ⟨c', h1, hc⟩ := af hc
  obtain ⟨x', h2, hc⟩ := af hc
  obtain ⟨y', h3, rfl⟩ := ag hc
  have LX := E h1
  simp only [aF] at h;generalize fr.eval c' = cv at LX h
  generalize va : a.eval c = cc at LX
  cases LX <;> simp only [reduceCtorEq, bj, R1.val.injEq] at h
  rename_i b
  obtain ⟨rfl, rfl⟩ := h
  refine ⟨ρ, w, if b then a.eval x else a.eval y, .inl (by simp only [execOp, ho, va, asBool, Sem.run_bind, Sem.run_pure, Result.andThen_ok]), ?_, hR, .refl _ _ _⟩
  cases b
  ·exact E h3
  ·exact E h2
 case h_4 e ho =>
  obtain ⟨z, hz, rfl⟩ := ag hc
  simp only [aF, bj, R1.val.injEq] at h;obtain ⟨rfl, rfl⟩ := h
  simp only [execOp, ho];exact ((Fm hR.n hz).runs hR).uC
 case h_5 e x ho =>
  obtain ⟨y, hy, rfl⟩ := ag hc
  simp only [aF] at h
  cases mF : (fr.eval y).cells with
  | none => simp [mF] at h
  | some cs =>
   simp only [mF, bj, R1.val.injEq] at h;obtain ⟨rfl, rfl⟩ := h
   simp only [execOp, ho];exact ((Kr hR.n (E hy) mF).runs hR).uC
 case h_6 t parts ho =>
  obtain ⟨z, hz, hc⟩ := af hc
  obtain ⟨zv, z1, z2, z3⟩ := nu (ρ := ρ) hz
  rcases fX hc with hc | hc
  ·obtain ⟨fs, hu, hc⟩ := af hc
   obtain ⟨_, hall, hc⟩ := af hc
   obtain ⟨ps, hp, rfl⟩ := ag hc
   have hu := xJ hu
   have hall := jy hall
   simp only [aF] at h;have hE := fU (x := (fu z (ps.map fun p => (p.1, p.2.1, fr.eval p.2.2))).map .agg) h
   obtain ⟨VZ, VY⟩ := hE
   subst VY;obtain ⟨ds, hf, X4⟩ := kr.1 VZ
   subst X4;obtain ⟨p1, p2⟩ := Bp hG hF hp
   have Ty : ∀ (l : List Field) (w : World), (∀ f ∈ l, ∃ s, gi P f.type = some s) -> (l.mapM fun (f : Field) => (do pure (f.offset, <- sizeOf f.type) : Sem (Nat × Nat))).run P w = .ok (l.map fun f => (f.offset, (gi P f.type).getD 0)) w := by
    intro l w hl
    induction l with
    | nil => rfl
    | cons f l ih =>
     obtain ⟨s, hs⟩ := hl f (by simp)
     simp only [List.mapM_cons, Sem.run_bind, ca hs, Result.andThen_ok, Sem.run_pure, ih (fun g hg => hl g (by simp [hg])), List.map_cons, hs, Option.getD_some]
   have IN := Ty fs.toList w (fun f hf => Option.isSome_iff_exists.1 (List.all_eq_true.1 hall f hf))
   obtain ⟨vo, f1, f2, f3, _⟩ := x8 (ρ := ρ) (place := fun i => (fs.toList.map fun f => (f.offset, (gi P f.type).getD 0)).toArray[i]?) _ (parts.toList.map fun p => (p.1, a.eval p.2)) z zv.cells z2 z3 p1 (fun i p q hp' GK => by
    obtain ⟨g1, g2⟩ := p2 i p q hp' GK
    refine ⟨?_, g2⟩
    obtain ⟨f, sv, BW⟩ := af g1
    obtain ⟨s, rT, SB⟩ := ag BW
    rw [<- SB];have : fs.toList[q.1]? = some f := by simpa using sv
    simp [sv, rT]) ds hf
   have ki : (Instr.build t (parts.map fun (i, x) => (i, a.eval x))).run P w = .ok (.agg vo) w := by
    simp only [Instr.build, Sem.run_bind, z1, Result.andThen_ok, run_underlying hu, Array.toList_map];rw [show (fs.mapM fun f => (do pure (f.offset, <- sizeOf f.type) : Sem (Nat × Nat))).run P w = .ok (fs.toList.map fun f => (f.offset, (gi P f.type).getD 0)).toArray w by
     rw [Array.mapM_eq_mapM_toList, Sem.run_map, IN]; rfl]
    simp only [Result.andThen_ok, f1, Sem.run_pure]
   simp only [execOp, ho];exact Good.still hR ki (.agg f2 f3)
  ·obtain ⟨q, hu, hc⟩ := af hc
   obtain ⟨s, hs, hc⟩ := af hc
   obtain ⟨ps, hp, rfl⟩ := ag hc
   have hu := vE hu
   simp only [aF] at h;have hE := fU (x := (fu z (ps.map fun p => (p.1, p.2.1, fr.eval p.2.2))).map .agg) h
   obtain ⟨VZ, VY⟩ := hE
   subst VY;obtain ⟨ds, hf, X4⟩ := kr.1 VZ
   subst X4;obtain ⟨p1, p2⟩ := Bp hG hF hp
   obtain ⟨vo, f1, f2, f3, _⟩ := x8 (ρ := ρ) (place := fun i => some (i * s, s)) _ (parts.toList.map fun p => (p.1, a.eval p.2)) z zv.cells z2 z3 p1 (fun i p q hp' GK => p2 i p q hp' GK) ds hf
   have ki : (Instr.build t (parts.map fun (i, x) => (i, a.eval x))).run P w = .ok (.agg vo) w := by
    simp only [Instr.build, Sem.run_bind, z1, Result.andThen_ok, run_underlying hu, Array.toList_map, ca hs, f1, Sem.run_pure]
   simp only [execOp, ho];exact Good.still hR ki (.agg f2 f3)
 case h_7 t len parts ho =>
  obtain ⟨e, hu, hc⟩ := af hc
  obtain ⟨s, hs, hc⟩ := af hc
  obtain ⟨z, hz, hc⟩ := af hc
  obtain ⟨ps, hp, hc⟩ := af hc
  obtain ⟨_, HX, hc⟩ := af hc
  obtain ⟨_, hl, rfl⟩ := ag hc
  have hu := kf hu
  simp only [aF] at h
  cases mF : fu (eE len z) (ps.map fun p => (p.1 * s, s, fr.eval p.2)) with
  | none => simp [mF] at h
  | some cs =>
   simp only [mF, bj, R1.val.injEq] at h;obtain ⟨rfl, rfl⟩ := h
   obtain ⟨p1, p2⟩ := mapM_some _ hp
   have hb := BF (P := P) hR.n hu hs hz (aV (jy HX)) (rc (jy hl)) (qs := parts.toList.map fun p => (p.1, a.eval p.2)) (by simpa using p1.symm) (fun i p q hp' GK => by
    rw [List.getElem?_map] at hp' GK
    obtain ⟨p0, LR, rfl⟩ := kr.1 hp'
    obtain ⟨q0, XB, rfl⟩ := kr.1 GK
    obtain ⟨x, hx, hxp⟩ := ag (p2 i q0 p0 XB LR)
    subst hxp;exact ⟨⟨rfl, rfl⟩, E hx⟩) mF
   simp only [execOp, ho];have : (parts.map fun (i, x) => (i, a.eval x)) = (⟨parts.toList.map fun p => (p.1, a.eval p.2)⟩ : Array (Nat × Value)) := by apply Array.ext'; simp
   rw [this];exact (hb.runs hR).uC
 case h_8 t x ho =>
  obtain ⟨g, hg, hc⟩ := af hc
  obtain ⟨y, hy, rfl⟩ := ag hc
  simp only [aF] at h;obtain ⟨h1, h2⟩ := fU h
  subst h2;obtain ⟨ad, v', e1, e2, e3⟩ := xD (P := P) hR hg (E hy) h1
  simp only [execOp, ho];refine Good.still (s := Instr.loadAt t (a.eval x)) hR (v' := v') ?_ e3
  rw [e1];simp only [Instr.loadAt, Instr.sureAddr, Sem.run_bind, Sem.run_pure, Result.andThen_ok, e2]
 case h_9 t x y ho =>
  obtain ⟨s, hs, hc⟩ := af hc
  obtain ⟨x', hx, hc⟩ := af hc
  obtain ⟨y', hy, rfl⟩ := ag hc
  simp only [aF] at h;obtain ⟨h1, rfl⟩ := Ta h
  have um := E hx
  have FB := E hy
  unfold Mem.store at h1
  cases Ts : fr.eval x' <;> simp only [Ts, reduceCtorEq] at h1
  rename_i b off
  cases mF : (fr.eval y').cells with
  | none => simp [mF] at h1
  | some vs =>
   simp only [mF] at h1
   cases hl : vs.length.beq s <;> simp only [hl, cond_true, cond_false, reduceCtorEq] at h1
   rw [Ts] at um;generalize H2 : a.eval x = av at um
   cases um with
   | @ptr _ _ L hL =>
   obtain ⟨c1, c2⟩ := FB.cells mF
   obtain ⟨w', r1, r2, r3⟩ := pV (P := P) hR hL c1 c2 h1
   refine ⟨ρ, w', undef, .inr ⟨?_, rfl⟩, .undef, r2, r3⟩
   have uo : (a.eval y).cells.size = s := by rw [<- aV hl, c1.length]; simp
   simp only [execOp, ho, H2, Instr.storeAt, Instr.sureAddr, storeVar, Sem.run_bind, Sem.run_pure, Result.andThen_ok, ca hs];rw [if_neg (by simp [uo])]
   simp only [r1, Result.andThen_ok]
 case h_10 x ho =>
  obtain ⟨y, hy, rfl⟩ := ag hc
  have FB := E hy
  simp only [aF] at h;generalize fr.eval y = e at FB h
  generalize H2 : a.eval x = av at FB
  cases FB <;> simp only [reduceCtorEq, bj, R1.val.injEq] at h
  case ptr b off L hL =>
   obtain ⟨rfl, rfl⟩ := h
   exact ⟨ρ, w, _, .inl (by simp only [execOp, ho, H2]; rfl), .ptr hL, hR, .refl _ _ _⟩
  case func f p q p' q' h1 h2 =>
   obtain ⟨rfl, rfl⟩ := h
   exact ⟨ρ, w, _, .inl (by simp only [execOp, ho, H2]; rfl), .func h1 h2, hR, .refl _ _ _⟩
  case iface t p p' h1 =>
   obtain ⟨rfl, rfl⟩ := h
   exact ⟨ρ, w, _, .inl (by simp only [execOp, ho, H2]; rfl), .iface h1, hR, .refl _ _ _⟩
 case h_11 op t x y yt ho =>
  obtain ⟨x', hx, hc⟩ := af hc
  obtain ⟨y', hy, hc⟩ := af hc
  have plain : op ≠ .eql -> op ≠ .neq -> some (lL.bin op x' y') = some io -> Good base ρ m w v m' ((execOp a.eval o).run P w) := by
   intro n1 n2 hc
   cases hc
   simp only [aF] at h;obtain ⟨h1, h2⟩ := fU h
   subst h2;obtain ⟨v', r1, r2⟩ := J9 (P := P) (w := w) (t := t) (E hx) (E hy) h1
   simp only [execOp, ho];refine Good.still hR (v' := v') ?_ r1
   rw [F4 n1 n2]
   simpa using r2
  have eqs : ∀ neg, ((op = .eql /\ neg = false) \/ (op = .neq /\ neg = true)) -> UL P neg t x' y' = some io -> Good base ρ m w v m' ((execOp a.eval o).run P w) := by
   intro neg lJ hc
   unfold UL at hc;have : ∃ e, nO P 20 t = some e /\ io = .eq neg e x' y' /\ (P.eqGuardType P.depth t = false \/ ∃ ms, P.underlying t = some (.interface ms)) := by
    cases hg : P.eqGuardType P.depth t <;> simp only [hg, cond_true, cond_false] at hc
    ·obtain ⟨e, he, rfl⟩ := ag hc
     exact ⟨e, he, rfl, .inl rfl⟩
    ·obtain ⟨_, hi, rfl⟩ := ag hc
     obtain ⟨ms, YW⟩ := Ol hi
     exact ⟨.aL 7, by simp [nO, YW], rfl, .inr ⟨ms, YW⟩⟩
   obtain ⟨e, he, rfl, nY⟩ := this
   simp only [aF] at h;have hE := fU (x := (eO e (fr.eval x') (fr.eval y')).map fun b => .bool (neg ^^ b)) h
   obtain ⟨VZ, VY⟩ := hE
   subst VY;obtain ⟨b, hb, X4⟩ := kr.1 VZ
   subst X4;have hr := RZ (P := P) (w := w) (ox := x) (oy := y) lJ he nY (E hx) (E hy) hb
   simp only [execOp, ho];exact Good.still hR hr (.bool _)
  cases op <;> first
   | exact eqs false (.inl ⟨rfl, rfl⟩) hc
   | exact eqs true (.inr ⟨rfl, rfl⟩) hc
   | exact plain (by simp) (by simp) hc
 case h_12 op t x ho =>
  obtain ⟨y, hy, rfl⟩ := ag hc
  simp only [aF] at h;obtain ⟨h1, h2⟩ := fU h
  subst h2;obtain ⟨v', r1, r2⟩ := L3 (P := P) (w := w) (E hy) h1
  simp only [execOp, ho];exact Good.still hR r2 r1
 case h_13 s d x ho =>
  obtain ⟨y, hy, hc⟩ := af hc
  have FB := E hy
  simp only [execOp, ho];rcases fX hc with hc | hc
  ·obtain ⟨_, hs, hc⟩ := af hc
   obtain ⟨k, hd, rfl⟩ := ag hc
   obtain ⟨ds, hs, _⟩ := AI hs
   have hd := Cc hd
   simp only [aF] at h;have h1 := lO h
   generalize fr.eval y = e at FB h1
   generalize a.eval x = av at FB
   cases FB <;> simp only [li, reduceCtorEq, bj, eQ] at h1
   obtain ⟨rfl, rfl⟩ := h1
   exact Good.still hR (R5 hs hd _ _) (.int _ _)
  rcases fX hc with hc | hc
  ·obtain ⟨_, hs, hc⟩ := af hc
   obtain ⟨_, hd, rfl⟩ := ag hc
   simp only [aF] at h;have h1 := lO h
   generalize fr.eval y = e at FB h1
   generalize a.eval x = av at FB
   cases FB <;> simp only [li, reduceCtorEq, bj, eQ] at h1
   obtain ⟨rfl, rfl⟩ := h1
   exact Good.still hR (Pw (kX hs) (kX hd) _) (.str _)
  rcases fX hc with hc | hc
  ·obtain ⟨_, hs, hc⟩ := af hc
   obtain ⟨e, hd, hc⟩ := af hc
   obtain ⟨k, he, hc⟩ := af hc
   obtain ⟨_, hk, rfl⟩ := ag hc
   have hk : k = .u8 := by have := aV (jy hk); cases k <;> simp [b6] at this; rfl
   subst hk;simp only [aF] at h;obtain ⟨B, rfl, hB⟩ := Fb (P := P) hR.n (kX hs) (kf hd) (Cc he) FB (lO h)
   exact (hB.runs hR).uC
  ·obtain ⟨e, hs, hc⟩ := af hc
   obtain ⟨_, hd, hc⟩ := af hc
   obtain ⟨k, he, hc⟩ := af hc
   obtain ⟨_, hk, rfl⟩ := ag hc
   have hk : k = .u8 := by have := aV (jy hk); cases k <;> simp [b6] at this; rfl
   subst hk;simp only [aF] at h;exact (KR hR (kf hs) (Cc he) (kX hd) FB (lO h)).uC
 case h_14 t x ho =>
  obtain ⟨_, hu, hc⟩ := af hc
  obtain ⟨y, hy, rfl⟩ := ag hc
  obtain ⟨d, hu, hd⟩ := AI hu
  simp only [aF, bj, R1.val.injEq] at h;obtain ⟨rfl, rfl⟩ := h
  simp only [execOp, ho];refine Good.still (v' := .iface t (a.eval x)) hR ?_ (.iface (E hy))
  simp only [Instr.makeInterface, Sem.run_bind, run_underlying hu, Result.andThen_ok]
  cases d <;> first | rfl | exact absurd rfl (hd _)
 case h_15 f p c ho =>
  obtain ⟨p', hp, hc⟩ := af hc
  obtain ⟨c', va, rfl⟩ := ag hc
  simp only [aF, bj, R1.val.injEq] at h;obtain ⟨rfl, rfl⟩ := h
  have h1 := nN hG hF hp
  have h2 := nN hG hF va
  simp only [execOp, ho];refine Good.still (v' := .func (.func f) (p.map a.eval) (c.map a.eval)) hR rfl ?_
  have e1 : p.map a.eval = ⟨p.toList.map a.eval⟩ := by apply Array.ext'; simp
  have e2 : c.map a.eval = ⟨c.toList.map a.eval⟩ := by apply Array.ext'; simp
  rw [e1, e2];exact .func h1 h2
 case h_16 t ho =>
  obtain ⟨_, _, rfl⟩ := ag hc
  simp only [aF, bj, R1.val.injEq] at h;obtain ⟨rfl, rfl⟩ := h
  simp only [execOp, ho];have := ((tf (P := P) hR.n).runs hR).uC
  simpa [Instr.makeMap] using this
 case h_17 t k z ho =>
  obtain ⟨q, hu, rfl⟩ := ag hc
  have hu := yr hu
  simp only [aF, bj, R1.val.injEq] at h;obtain ⟨rfl, rfl⟩ := h
  simp only [execOp, ho];have := ((tf (P := P) hR.n).runs hR).uC
  simpa [Instr.makeMap, run_underlying hu, Act.eval, asInt, asIntOf] using this
 case h_18 t l c ho =>
  obtain ⟨e, hu, hc⟩ := af hc
  obtain ⟨i, hi, hc⟩ := af hc
  obtain ⟨z, hz, hc⟩ := af hc
  obtain ⟨l', hl, hc⟩ := af hc
  obtain ⟨c', va, hc⟩ := af hc
  obtain ⟨_, HX, hc⟩ := af hc
  obtain ⟨_, hb, rfl⟩ := ag hc
  have xu := E hl
  have LX := E va
  simp only [aF] at h;simp only [execOp, ho];generalize fr.eval l' = el at xu h
  generalize fr.eval c' = ec at LX h
  generalize a.eval l = al at xu
  generalize a.eval c = ac at LX
  cases xu <;> (try simp only [reduceCtorEq] at h)
  rename_i k1 n1
  cases k1 <;> (try simp only [reduceCtorEq] at h)
  cases n1 <;> (try simp only [reduceCtorEq] at h)
  rename_i ln
  cases LX <;> (try simp only [reduceCtorEq] at h)
  rename_i k2 n2
  cases k2 <;> (try simp only [reduceCtorEq] at h)
  cases n2 <;> (try simp only [reduceCtorEq] at h)
  rename_i cn
  cases h1 : ln.ble cn <;> simp only [h1, cond_true, cond_false, reduceCtorEq] at h
  cases h2 : cn.ble room <;> simp only [h2, cond_true, cond_false, reduceCtorEq, bj, R1.val.injEq] at h
  obtain ⟨rfl, rfl⟩ := h
  exact ((ze hR.n (kf hu) hi hz (aV (jy HX)) (rc (jy hb)) (rc h1) (rc h2)).runs hR).uC
 case h_19 t x lo hi mx ho =>
  obtain ⟨_, Pb, hc⟩ := af hc
  obtain ⟨x', hx, hc⟩ := af hc
  obtain ⟨EC, mU, hc⟩ := af hc
  obtain ⟨xF, xv, hc⟩ := af hc
  obtain ⟨Ez, zy, hc⟩ := af hc
  have um := E hx
  have xu := EO mU
  have WH := EO xv
  have XI := EO zy
  have Rx : (mx.map a.eval).isSome = true -> (hi.map a.eval).isSome = true := by
   have := jy Pb
   cases mx <;> cases hi <;> simp at this ⊢
  simp only [execOp, ho];rcases fX hc with hc | hc
  ·obtain ⟨q, hu, hc⟩ := af hc
   obtain ⟨s, hs, rfl⟩ := ag hc
   have hu := vE hu
   simp only [aF] at h;generalize fr.eval x' = e at um h
   generalize a.eval x = av at um
   cases um <;> simp only [reduceCtorEq] at h
   rename_i b off L hL
   obtain ⟨h1, h2⟩ := fU h
   subst h2;obtain ⟨l, hh, t', r1, r2⟩ := Bk (P := P) (w := w) xu WH XI Rx hL (eX q.1) (o := L.off + off) (fun _ => rfl) false h1
   refine Good.still hR ?_ r2
   simp only [Instr.sliceAt, Sem.run_bind, run_underlying hu, Result.andThen_ok, Instr.sureAddr, Sem.run_pure, r1, ca hs, E6, Option.map_some]
   split <;> rfl
  rcases fX hc with hc | hc
  ·obtain ⟨el, hu, hc⟩ := af hc
   obtain ⟨s, hs, rfl⟩ := ag hc
   have hu := kf hu
   simp only [aF] at h;generalize fr.eval x' = e at um h
   generalize a.eval x = av at um
   cases um <;> simp only [reduceCtorEq] at h
   case ae =>
    cases h1 : ay (Ez.map fr.eval) 0 0 with
    | none => simp [h1] at h
    | some t1 =>
    cases h2 : ay (xF.map fr.eval) 0 0 with
    | none => simp [h1, h2] at h
    | some t2 =>
    cases h3 : ay (EC.map fr.eval) 0 0 with
    | none => simp [h1, h2, h3] at h
    | some t3 =>
    simp only [h1, h2, h3, bj, R1.val.injEq] at h;obtain ⟨rfl, rfl⟩ := h
    have z : ∀ {y : Option EV} {r : Nat}, ay y 0 0 = some r -> r = 0 := by
     intro y r hb
     unfold ay at hb
     split at hb
     ·cases hb; rfl
     ·rename_i i
      cases hq : i.ble 0 <;> simp only [hq, cond_true, cond_false, reduceCtorEq, bj] at hb
      have := rc hq
      omega
     ·cases hb
    have e1 := z h1; have e2 := z h2; have e3 := z h3
    subst e1 e2 e3
    obtain ⟨r, _⟩ := km (P := P) (w := w) xu WH XI Rx true (n := 0) rfl (t := 0) (h := 0) (l := 0) (c := 0) (by
     cases hm : Ez.map fr.eval with
     | none => exact .inl ⟨rfl, rfl⟩
     | some y => rw [hm] at h1; exact .inr ⟨0, h1, by simp⟩) h2 h3
    refine Good.still (v' := .slice none 0 0) hR ?_ .ae
    simp only [Instr.sliceAt, Instr.slice, Sem.run_bind, run_underlying hu, Result.andThen_ok, r, ca hs, Sem.run_pure, if_true]
   case slice b off len c o L hL oY Rw CU =>
    cases hm : m.get b with
    | dead => simp [hm] at h
    | map => simp [hm] at h
    | cells cs e1 el1 ro1 =>
    simp only [hm] at h
    cases hq : e1.beq s <;> simp only [hq, cond_true, cond_false, reduceCtorEq] at h
    obtain ⟨h1, h2⟩ := fU h
    subst h2;obtain ⟨l, hh, t', r1, r2⟩ := KX (P := P) (w := w) xu WH XI Rx hL oY Rw CU (by rw [RX hR hL hm, aV hq]) true h1
    refine Good.still hR ?_ r2
    simp only [Instr.sliceAt, Instr.slice, Sem.run_bind, run_underlying hu, Result.andThen_ok, r1, ca hs, Sem.run_pure, E6]
   case gS b off a0 =>
    obtain ⟨h1, h2⟩ := fU h
    subst h2;obtain ⟨l, hh, t', r1, r2⟩ := I5 (P := P) (w := w) (a := a0) xu WH XI Rx true h1
    refine Good.still hR ?_ r2
    simp only [Instr.sliceAt, Instr.slice, Sem.run_bind, run_underlying hu, Result.andThen_ok, r1, ca hs, Sem.run_pure, E6]
   case fJ b off len c o L hL oY Rw =>
    obtain ⟨h1, h2⟩ := fU h
    subst h2;obtain ⟨l, hh, t', r1, r2⟩ := Bk (P := P) (w := w) xu WH XI Rx hL oY Rw true h1
    refine Good.still hR ?_ r2
    simp only [Instr.sliceAt, Instr.slice, Sem.run_bind, run_underlying hu, Result.andThen_ok, r1, ca hs, Sem.run_pure, E6]
  ·obtain ⟨_, hu, hc⟩ := af hc
   obtain ⟨_, Pa, rfl⟩ := ag hc
   have hu := kX hu
   have Pa := jy Pa
   have : mx = none := by
    cases mx with
    | none => rfl
    | some y =>
     simp [Km] at zy
     obtain ⟨z, hz, rfl⟩ := zy
     simp at Pa
   subst this;simp only [aF] at h;generalize fr.eval x' = e at um h
   generalize a.eval x = av at um
   cases um <;> simp only [reduceCtorEq] at h
   rename_i s'
   cases h1 : ay (xF.map fr.eval) s'.data.toList.length s'.data.toList.length with
   | none => simp only [h1, reduceCtorEq] at h
   | some hh =>
   cases h2 : ay (EC.map fr.eval) 0 hh with
   | none => simp only [h1, h2, reduceCtorEq] at h
   | some l =>
    simp only [h1, h2, bj, R1.val.injEq] at h;obtain ⟨rfl, rfl⟩ := h
    obtain ⟨v', r1, r2⟩ := I4 (P := P) (w := w) hu xu WH h1 h2
    exact Good.still hR r2 r1
 case h_20 s x f ho =>
  obtain ⟨fs, hu, hc⟩ := af hc
  obtain ⟨x', hx, hc⟩ := af hc
  obtain ⟨fl, hf, hc⟩ := af hc
  obtain ⟨sz, hs, hc⟩ := af hc
  obtain ⟨_, h1, rfl⟩ := ag hc
  have h1 := rc (jy h1)
  obtain ⟨k, rfl⟩ : ∃ k, sz = k + 1 := ⟨sz - 1, by omega⟩
  have um := E hx
  simp only [aF] at h;simp only [execOp, ho];generalize fr.eval x' = e at um h
  generalize a.eval x = av at um
  cases um <;> simp only [reduceCtorEq, bj, R1.val.injEq] at h
  rename_i hL
  obtain ⟨rfl, rfl⟩ := h
  exact Good.Ew hR (J6 (xJ hu) hf hs (.ptr hL))
 case h_21 t x f ho =>
  obtain ⟨fs, hu, hc⟩ := af hc
  obtain ⟨x', hx, hc⟩ := af hc
  obtain ⟨fl, hf, hc⟩ := af hc
  obtain ⟨g, hg, rfl⟩ := ag hc
  have um := E hx
  simp only [aF] at h;simp only [execOp, ho]
  cases he : fr.eval x' <;> simp only [he, reduceCtorEq] at h
  rename_i cs
  rw [he] at um;obtain ⟨h1, h2⟩ := fU h
  subst h2;exact Good.Ew hR (J4 (xJ hu) hf hg um h1)
 case h_22 t x i ho =>
  obtain ⟨x', hx, hc⟩ := af hc
  obtain ⟨i', hi, hc⟩ := af hc
  have um := E hx
  have XO := E hi
  simp only [execOp, ho];rcases fX hc with hc | hc
  ·obtain ⟨e, hu, hc⟩ := af hc
   obtain ⟨s, hs, rfl⟩ := ag hc
   simp only [aF] at h
   cases he : fr.eval x' <;> simp only [he, reduceCtorEq] at h
   case fz => rw [he] at um; cases um
   rename_i b off len cap
   rw [he] at um
   cases hj : idx len (fr.eval i') with
   | none => simp [hj] at h
   | some j =>
    simp only [hj, bj, R1.val.injEq] at h;obtain ⟨rfl, rfl⟩ := h
    exact Good.Ew hR (JL (kf hu) hs um XO hj)
  ·obtain ⟨q, hu, hc⟩ := af hc
   obtain ⟨s, hs, rfl⟩ := ag hc
   simp only [aF] at h
   cases he : fr.eval x' <;> simp only [he, reduceCtorEq] at h
   rename_i b off
   rw [he] at um
   cases hj : idx q.1 (fr.eval i') with
   | none => simp [hj] at h
   | some j =>
    simp only [hj, bj, R1.val.injEq] at h;obtain ⟨rfl, rfl⟩ := h
    exact Good.Ew hR (EM (vE hu) hs um XO hj)
 case h_23 t x i ho =>
  obtain ⟨x', hx, hc⟩ := af hc
  obtain ⟨i', hi, hc⟩ := af hc
  have um := E hx
  have XO := E hi
  simp only [execOp, ho];rcases fX hc with hc | hc
  ·obtain ⟨_, hu, rfl⟩ := ag hc
   simp only [aF] at h;generalize fr.eval x' = e at um h
   generalize a.eval x = av at um
   cases um <;> simp only [reduceCtorEq] at h
   rename_i s'
   cases hj : idx s'.data.toList.length (fr.eval i') with
   | none => simp only [hj, reduceCtorEq] at h
   | some j =>
    simp only [hj] at h
    cases hcj : s'.data.toList[j]? with
    | none => simp only [hcj, reduceCtorEq] at h
    | some c =>
     simp only [hcj, bj, R1.val.injEq] at h;obtain ⟨rfl, rfl⟩ := h
     exact Good.still hR (HV (kX hu) XO hj hcj) (.int _ _)
  ·obtain ⟨q, hu, hc⟩ := af hc
   obtain ⟨s, hs, hc⟩ := af hc
   obtain ⟨g, hg, rfl⟩ := ag hc
   simp only [aF] at h
   cases he : fr.eval x' <;> simp only [he, reduceCtorEq] at h
   rename_i cs
   rw [he] at um
   cases hj : idx q.1 (fr.eval i') with
   | none => simp [hj] at h
   | some j =>
    simp only [hj] at h;obtain ⟨h1, h2⟩ := fU h
    subst h2;exact Good.Ew hR (HW (vE hu) hs hg um XO hj h1)
 case h_24 t mp k ok ho =>
  obtain ⟨q, hu, hc⟩ := af hc
  obtain ⟨c, hk, hc⟩ := af hc
  obtain ⟨z, hz, hc⟩ := af hc
  obtain ⟨m1, hm, hc⟩ := af hc
  obtain ⟨k1, Rz, rfl⟩ := ag hc
  simp only [execOp, ho];exact (HP hR (yr hu) hk hz (E hm) (E Rz) rfl rfl h).uC
 case h_25 t mp k x ho =>
  obtain ⟨q, hu, hc⟩ := af hc
  obtain ⟨c, hk, hc⟩ := af hc
  obtain ⟨m1, hm, hc⟩ := af hc
  obtain ⟨k1, Rz, hc⟩ := af hc
  obtain ⟨x1, hx, rfl⟩ := ag hc
  obtain ⟨w', r1, rfl, r2, r3⟩ := zg (P := P) hR (yr hu) hk (E hm) (E Rz) (E hx) rfl rfl rfl h
  exact ⟨ρ, w', undef, .inr ⟨by simp only [execOp, ho, Sem.run_bind, r1, Result.andThen_ok, Sem.run_pure], rfl⟩, .undef, r2, r3⟩
 case h_26 t mp k x ho =>
  obtain ⟨q, hu, hc⟩ := af hc
  obtain ⟨c, hk, hc⟩ := af hc
  obtain ⟨m1, hm, hc⟩ := af hc
  obtain ⟨k1, Rz, hc⟩ := af hc
  obtain ⟨x1, hx, rfl⟩ := ag hc
  obtain ⟨w', r1, rfl, r2, r3⟩ := zg (P := P) hR (yr hu) hk (E hm) (E Rz) (E hx) rfl rfl rfl h
  exact ⟨ρ, w', undef, .inr ⟨by simp only [execOp, ho, Sem.run_bind, r1, Result.andThen_ok, Sem.run_pure], rfl⟩, .undef, r2, r3⟩
 case h_27 x xt t ho =>
  obtain ⟨_, hu, hc⟩ := af hc
  obtain ⟨y, hy, rfl⟩ := ag hc
  obtain ⟨d, hu, hd⟩ := AI hu
  have FB := E hy
  simp only [aF] at h;simp only [execOp, ho];generalize fr.eval y = e at FB h
  generalize a.eval x = av at FB
  cases FB <;> simp only [reduceCtorEq] at h
  rename_i u v0 v1 hv
  cases hq : t.beq u <;> simp only [hq, cond_true, cond_false, reduceCtorEq, bj, R1.val.injEq] at h
  obtain ⟨rfl, rfl⟩ := h
  obtain rfl := aV hq
  refine Good.still hR ?_ hv
  simp only [Instr.typeAssert, Sem.run_bind, run_underlying hu, Result.andThen_ok]
  cases d <;> first | (exact absurd rfl (hd _)) | simp
 case h_28 x i ho =>
  obtain ⟨y, hy, rfl⟩ := ag hc
  have FB := E hy
  simp only [aF] at h;simp only [execOp, ho];generalize fr.eval y = e at FB h
  generalize a.eval x = av at FB
  cases FB <;> simp only [reduceCtorEq] at h
  rename_i vs uI yk
  obtain ⟨h1, h2⟩ := fU h
  subst h2;obtain ⟨v', g1, g2⟩ := yk.get i v h1
  refine Good.still hR ?_ g2
  simp [Instr.extract, g1]
 case h_29 c ho =>
  obtain ⟨ys, Rj, hc⟩ := af hc
  split at hc
  ·rename_i b hb
   rw [Kq ho hb];have hv := nN hG hF Rj
   have e1 : c.args.map a.eval = ⟨c.args.toList.map a.eval⟩ := by apply Array.ext'; simp
   rw [e1];exact F7 (ts := c.argTypes.toList) hR hv hc _ _ h
  ·cases hc
 case h_30 => cases hc
theorem MR {o : Oper} {f : Operand} {xs : Array Operand} {ts : Array TypeId} (ho : o.op = .call ⟨.value f, xs, ts⟩) {f' : aZ} {ys : List aZ} (hf : ff G f = some f') (Rj : An G xs.toList = some ys) (hG : jJ G ρ) (hF : FR ρ n fr a) {g : Nat} {x y : List EV} (he : fr.eval f' = .func g x y) :
  ∃ aA : Array Value, (execOp a.eval o).run P w = (callFunc g aA).run P w /\ fB ρ (x ++ ys.map fr.eval ++ y) aA.toList := by
 have VI := iu hG hF hf
 have hv := nN hG hF Rj
 rw [he] at VI;generalize H2 : a.eval f = av at VI
 cases VI with
 | @func _ _ _ x' y' hx hy =>
 refine ⟨⟨x' ++ xs.toList.map a.eval ++ y'⟩, ?_, (hx.append hv).append hy⟩
 simp only [execOp, ho, resolve, H2, Deferred.ofValue, Sem.run_bind, Sem.run_pure, Result.andThen_ok, invoke]
 congr 2
 apply Array.ext'
 simp
theorem QD {o : Oper} {x : Operand} (ho : o.op = .panic x) {x' : aZ} (hx : ff G x = some x') (hG : jJ G ρ) (hF : FR ρ n fr a) {t : Nat} {v : EV} (he : fr.eval x' = .iface t v) :
  ∃ v', (execOp a.eval o).run P w = .halt (.panic v') w /\ VR ρ (.iface t v) v' := by
 have hv := iu hG hF hx
 rw [he] at hv;generalize H2 : a.eval x = av at hv
 cases hv with
 | iface h => exact ⟨_, by simp [execOp, ho, H2, Instr.panic], .iface h⟩
end
end
section
def adJ (ρ : eF) (e : Nat × List EV) (d : Deferred) : Prop := ∃ c' : Array Value, d.target = .fn (.func e.1) c' /\ fB ρ e.2 (d.args.toList ++ c'.toList)
inductive xH (ρ : eF) : List (Nat × List EV) -> List Deferred -> Prop
 | nil : xH ρ [] []
 | cons {e : Nat × List EV} {d : Deferred} {es : List (Nat × List EV)} {ds : List Deferred} (h : adJ ρ e d) (hs : xH ρ es ds) : xH ρ (e :: es) (d :: ds)
theorem xH.ext {ρ ρ' : eF} (e : Ext ρ ρ') {es : List (Nat × List EV)} {ds : List Deferred} (h : xH ρ es ds) : xH ρ' es ds := by
 induction h with
 | nil => exact .nil
 | cons h _ ih => obtain ⟨c', h1, h2⟩ := h; exact .cons ⟨c', h1, h2.ext e⟩ ih
structure B7 (ρ : eF) (n : Nat) (fr : Fr) (a : Act) : Prop where
 tm : FR ρ n fr a
 F5 : xH ρ fr.defers a.defers
theorem B7.ext {ρ ρ' : eF} {n : Nat} {fr : Fr} {a : Act} (e : Ext ρ ρ') (h : B7 ρ n fr a) : B7 ρ' n fr a := ⟨h.tm.ext e, h.F5.ext e⟩
theorem put_defers (fr : Fr) (d : Option Nat) (v : EV) : (fr.put d v).defers = fr.defers := by cases d <;> rfl
theorem I9 (a : Act) (d : Option Nat) (v : Value) : (a.put d v).defers = a.defers := by cases d <;> rfl
theorem B7.put {ρ : eF} {n : Nat} {fr : Fr} {a : Act} (h : B7 ρ n fr a) {d : Option Nat} (hd : ∀ x, d = some x -> x < n) {v : EV} {v' : Value} (hv : VR ρ v v') : B7 ρ n (fr.put d v) (a.put d v') :=
 ⟨h.tm.put hd hv, by rw [put_defers, I9]; exact h.F5⟩
def Reach (base n : Nat) (ρ : eF) (m : Mem) (w : World) (out : Out) (e : Exit) (a' : Act) (w' : World) : Prop :=
 match out with
 | .norm fr' m' => e = .normal /\ ∃ ρ', R base ρ' m' w' /\ Step ρ m w ρ' m' w' /\ B7 ρ' n fr' a'
 | .exit id fr' m' => e = .exit id /\ ∃ ρ', R base ρ' m' w' /\ Step ρ m w ρ' m' w' /\ B7 ρ' n fr' a'
 | .ret fr' m' => e = .ret /\ ∃ ρ', R base ρ' m' w' /\ Step ρ m w ρ' m' w' /\ B7 ρ' n fr' a'
 | .gO v fr' m' => ∃ ρ' v', e = .panic [{ v := v', recovered := false }] /\ VR ρ' v v' /\ R base ρ' m' w' /\ Step ρ m w ρ' m' w' /\ B7 ρ' n fr' a'
theorem Reach.after {base n : Nat} {ρ ρ1 : eF} {m m1 : Mem} {w w1 : World} (s : Step ρ m w ρ1 m1 w1) {out : Out} {e : Exit} {a' : Act} {w' : World} (h : Reach base n ρ1 m1 w1 out e a' w') : Reach base n ρ m w out e a' w' := by
 cases out with
 | norm fr' m' => obtain ⟨he, ρ', h1, h2, h3⟩ := h; exact ⟨he, ρ', h1, s.trans h2, h3⟩
 | exit id fr' m' => obtain ⟨he, ρ', h1, h2, h3⟩ := h; exact ⟨he, ρ', h1, s.trans h2, h3⟩
 | ret fr' m' => obtain ⟨he, ρ', h1, h2, h3⟩ := h; exact ⟨he, ρ', h1, s.trans h2, h3⟩
 | gO v fr' m' => obtain ⟨ρ', v', he, h0, h1, h2, h3⟩ := h; exact ⟨ρ', v', he, h0, h1, s.trans h2, h3⟩
def nR (base : Nat) (ρ : eF) (m : Mem) (w : World) (fin : Fin) (e : Ending) (w' : World) : Prop :=
 match fin with
 | .ret v m' => ∃ ρ' v', e = .returned v' /\ VR ρ' v v' /\ R base ρ' m' w' /\ Step ρ m w ρ' m' w'
 | .gO v m' => ∃ ρ' v', e = .panicked [{ v := v', recovered := false }] /\ VR ρ' v v' /\ R base ρ' m' w' /\ Step ρ m w ρ' m' w'
def pK (P : Program) (G : List Nat) (call : Call) : Prop :=
 ∀ f args m fin, call f args m = some fin -> ∀ base ρ w (aA : Array Value), R base ρ m w -> jJ G ρ -> fB ρ args aA.toList ->
  ((callFunc f aA).run P w = .ok (.enter f aA) w /\ Calls P f aA w (nR base ρ m w fin)) \/
  (∃ v v', fin = .ret v m /\ (callFunc f aA).run P w = .ok (.value v') w /\ VR ρ v v')
section
variable {P : Program} {G : List Nat} {n : Nat} {call : Call}
theorem Ko {ops : Array Oper} {o : Oper} {io : bd} (h : uv P G n ops o = some io) : E9 P G o = some io.op /\ io.dst = o.dst /\ (∀ x, o.dst = some x -> x < n) /\
  ((o.guard = none /\ io.guard = none) \/ (∃ j w t, o.guard = some (j, w) /\ (ops[j]?).bind (·.dst) = some t /\ io.guard = some (t, w))) := by
 unfold uv at h
 cases hx : E9 P G o with
 | none => simp [hx] at h
 | some op =>
  simp only [hx] at h
  cases hb : UI n o.dst with
  | false => simp [hb] at h
  | true =>
  simp only [hb, cond_true] at h;have nJ : ∀ x, o.dst = some x -> x < n := by
   intro x hx
   rw [hx] at hb;exact rc hb
  cases hg : o.guard with
  | none => simp only [hg, bj] at h; subst h; exact ⟨rfl, rfl, nJ, .inl ⟨rfl, rfl⟩⟩
  | some jw =>
   obtain ⟨j, w⟩ := jw
   simp only [hg] at h
   cases ht : (ops[j]?).bind (·.dst) with
   | none => simp [ht] at h
   | some t => simp only [ht, bj] at h; subst h; exact ⟨rfl, rfl, nJ, .inr ⟨j, w, t, rfl, ht, rfl⟩⟩
theorem mH {ρ : eF} {ops : Array Oper} {o : Oper} {io : bd} {fr : Fr} {a : Act} (hF : FR ρ n fr a)
  (hg : (o.guard = none /\ io.guard = none) \/ (∃ j w t, o.guard = some (j, w) /\ (ops[j]?).bind (·.dst) = some t /\ io.guard = some (t, w))) {b : Bool} (h : bm fr io.guard = some b) :
  Region.wanted o (yielded ops a.tmps) = b := by
 rcases hg with ⟨h1, h2⟩ | ⟨j, w, t, h1, h2, h3⟩
 ·rw [h2] at h; simp [bm] at h; subst h; simp [Region.wanted, h1]
 ·rw [h3] at h
  simp only [bm] at h
  cases hv : fr.get t <;> simp only [hv, reduceCtorEq, bj] at h
  case undef =>
   have ht := hF.tmp t
   rw [hv] at ht;generalize SA : a.tmps.getD t undef = tv at ht
   cases ht
   subst h;simp only [Region.wanted, h1, yielded, h2, Option.bind_some]
   cases hq : a.tmps[t]? with
   | none => rfl
   | some x =>
    rw [Array.getD_eq_getD_getElem?, hq] at SA;simp only [Option.getD_some] at SA;rw [SA]; rfl
  rename_i c
  have ht := hF.tmp t
  rw [hv] at ht;generalize SA : a.tmps.getD t undef = tv at ht
  cases ht
  simp only [Region.wanted, h1, yielded, h2, Option.bind_some];have : a.tmps[t]? = some (.bool c) := by
   rw [Array.getD_eq_getD_getElem?] at SA
   cases hq : a.tmps[t]? with
   | none => rw [hq] at SA; simp [undef] at SA
   | some x => rw [hq] at SA; simp at SA; rw [SA]
  rw [this];subst h;simp
theorem vt {o : Oper} {op : lL} (h : E9 P G o = some (.val op)) : UK P G o = some op := by
 unfold E9 at h
 split at h
 ·obtain ⟨_, _, h⟩ := af h; obtain ⟨_, _, h⟩ := ag h; cases h
 ·obtain ⟨_, _, h⟩ := af h; obtain ⟨_, _, h⟩ := ag h; cases h
 ·obtain ⟨_, _, h⟩ := ag h; cases h
 ·obtain ⟨_, hh, h⟩ := ag h; cases h; exact hh
theorem G4 {o : Oper} {f : aZ} {ys : List aZ} (h : E9 P G o = some (.call f ys)) : ∃ f0 xs ts, o.op = .call ⟨.value f0, xs, ts⟩ /\ ff G f0 = some f /\ An G xs.toList = some ys := by
 unfold E9 at h
 split at h
 ·rename_i f0 xs ts ho
  obtain ⟨_, h1, h⟩ := af h; obtain ⟨_, h2, h⟩ := ag h; cases h
  exact ⟨f0, xs, ts, ho, h2, h1⟩
 ·obtain ⟨_, _, h⟩ := af h; obtain ⟨_, _, h⟩ := ag h; cases h
 ·obtain ⟨_, _, h⟩ := ag h; cases h
 ·obtain ⟨_, hh, h⟩ := ag h; cases h
theorem Mh {o : Oper} {f : aZ} {ys : List aZ} (h : E9 P G o = some (.defer f ys)) : ∃ f0 xs ts, o.op = .defer ⟨.value f0, xs, ts⟩ /\ ff G f0 = some f /\ An G xs.toList = some ys := by
 unfold E9 at h
 split at h
 ·obtain ⟨_, _, h⟩ := af h; obtain ⟨_, _, h⟩ := ag h; cases h
 ·rename_i f0 xs ts ho
  obtain ⟨_, h1, h⟩ := af h; obtain ⟨_, h2, h⟩ := ag h; cases h
  exact ⟨f0, xs, ts, ho, h2, h1⟩
 ·obtain ⟨_, _, h⟩ := ag h; cases h
 ·obtain ⟨_, hh, h⟩ := ag h; cases h
theorem Mg {o : Oper} {x : aZ} (h : E9 P G o = some (.panic x)) : ∃ x0, o.op = .panic x0 /\ ff G x0 = some x := by
 unfold E9 at h
 split at h
 ·obtain ⟨_, _, h⟩ := af h; obtain ⟨_, _, h⟩ := ag h; cases h
 ·obtain ⟨_, _, h⟩ := af h; obtain ⟨_, _, h⟩ := ag h; cases h
 ·rename_i x0 ho
  obtain ⟨_, h2, h⟩ := ag h; cases h
  exact ⟨x0, ho, h2⟩
 ·obtain ⟨_, hh, h⟩ := ag h; cases h
theorem Oj {o : Oper} {a : Act} {next next' : Act -> World -> Prop} {Q Q' : Exit -> Act -> World -> Prop} (hn : ∀ a w, next a w -> next' a w) (hq : ∀ e a w, Q e a w -> Q' e a w) {r : Result Next} (h : o.upon P a next Q r) : o.upon P a next' Q' r := by
 unfold Oper.upon at *
 split at h
 ·exact hn _ _ h
 ·exact hn _ _ h
 ·exact hn _ _ h
 ·refine h.mono fun e w hp => ?_
  cases e with
  | returned v => exact hn _ _ hp
  | panicked c => exact hq _ _ _ hp
  | outgrown => obtain ⟨a, w, h⟩ := hp; exact ⟨a, w, hq _ _ _ h⟩
 ·exact h.mono fun v w hp => hn _ _ hp
 ·exact hq _ _ _ h
 ·exact h
theorem sx {ops : Array Oper} {Q Q' : Exit -> Act -> World -> Prop} (hq : ∀ e a w, Q e a w -> Q' e a w) : ∀ (l : List Nat) (a : Act) (w : World), wpOps P ops Q l a w -> wpOps P ops Q' l a w
 | [], a, w, h => hq _ _ _ h
 | i :: l, a, w, h => by
  simp only [wpOps] at h ⊢
  cases ho : ops[i]? with
  | none => simp only [ho] at h ⊢; exact sx hq l a w h
  | some o =>
   simp only [ho] at h ⊢
   split
   ·rename_i hw
    rw [if_pos hw] at h;rcases h with h | ⟨h1, a0, w0, h2⟩
    ·exact .inl (Oj (sx hq l) hq h)
    ·exact .inr ⟨h1, a0, w0, hq _ _ _ h2⟩
   ·rename_i hw
    rw [if_neg hw] at h;exact sx hq l _ w h
theorem Gq (bI : pK P G call) {base : Nat} {ops : Array Oper} : ∀ (is : List bd) (l : List Nat), is.length = l.length -> (∀ (k : Nat) (i : Nat) (io : bd), l[k]? = some i -> is[k]? = some io -> ∃ o, ops[i]? = some o /\ uv P G n ops o = some io) ->
  ∀ (ρ : eF) (m : Mem) (w : World) (fr : Fr) (a : Act) (out : Out), R base ρ m w -> jJ G ρ -> B7 ρ n fr a -> gY call is fr m = some out -> wpOps P ops (Reach base n ρ m w out) l a w := by
 intro is
 induction is with
 | nil =>
  intro l hl Vu ρ m w fr a out hR hG hF h
  cases l with
  | cons x l => simp at hl
  | nil =>
   simp only [gY, bj] at h;subst h;exact ⟨rfl, ρ, hR, .refl _ _ _, hF⟩
 | cons io is ih =>
  intro l hl Vu ρ m w fr a out hR hG hF h
  cases l with
  | nil => simp at hl
  | cons i l =>
  obtain ⟨o, ho, hc⟩ := Vu 0 i io rfl rfl
  obtain ⟨hx, nJ, AZ, nY⟩ := Ko hc
  have zz : is.length = l.length := by simpa using hl
  have Xz : ∀ (k : Nat) (i : Nat) (io : bd), l[k]? = some i -> is[k]? = some io -> ∃ o, ops[i]? = some o /\ uv P G n ops o = some io :=
   fun k i io h1 h2 => Vu (k + 1) i io (by simpa using h1) (by simpa using h2)
  -- what follows, from where a step has led
  have next : ∀ {ρ1 : eF} {m1 : Mem} {w1 : World} {fY : Fr} {a1 : Act}, R base ρ1 m1 w1 -> Step ρ m w ρ1 m1 w1 -> B7 ρ1 n fY a1 -> gY call is fY m1 = some out -> wpOps P ops (Reach base n ρ m w out) l a1 w1 := by
   intro ρ1 m1 w1 fY a1 lK hs wL h1
   have := ih l zz Xz ρ1 m1 w1 fY a1 out lK (hG.ext hs.ext) wL h1
   exact sx (fun e a w hq => hq.after hs) l a1 w1 this
  simp only [gY] at h;simp only [wpOps, ho]
  cases hw : bm fr io.guard with
  | none => simp [hw] at h
  | some b =>
  rw [mH hF.tm nY hw]
  cases b with
  | false =>
   simp only [hw] at h;rw [if_neg (by simp)];rw [nJ] at h;exact next hR (.refl _ _ _) (hF.put AZ .undef) h
  | true =>
   simp only [hw] at h;rw [if_pos rfl]
   left
   simp only [Oper.wp]
   cases lJ : io.op with
   | val op =>
    simp only [lJ] at h
    cases rU : aF fr.eval op m with
    | none => simp [rU] at h
    | some r =>
     obtain ⟨v, m1⟩ := r
     simp only [rU] at h;rw [lJ] at hx;obtain ⟨ρ1, w1, v', ki, hv, lK, hs⟩ := Et (vt hx) hG hR hF.tm rU
     rcases ki with ki | ⟨ki, rfl⟩
     ·rw [ki]
      simp only [Oper.upon];rw [nJ] at h;exact next lK hs ((hF.ext hs.ext).put AZ hv) h
     ·rw [ki]
      simp only [Oper.upon];rw [nJ] at h;exact next lK hs ((hF.ext hs.ext).put AZ hv) h
   | call f args =>
    simp only [lJ] at h;rw [lJ] at hx;obtain ⟨f0, Wh, ts0, Rw, hf, Rj⟩ := G4 hx
    cases JR : fr.eval f <;> simp only [JR, fR, reduceCtorEq] at h
    rename_i g x y
    obtain ⟨aA, ki, hv⟩ := MR (w := w) (P := P) Rw hf Rj hG hF.tm JR
    rw [ki]
    cases xX : call g (x ++ args.map fr.eval ++ y) m with
    | none => simp only [xX, reduceCtorEq] at h
    | some fin =>
     rcases bI _ _ _ _ xX base ρ w aA hR hG hv with ⟨h1, h2⟩ | ⟨v, v', rfl, h1, h2⟩
     ·rw [h1]
      simp only [Oper.upon];refine h2.mono fun e w' hp => ?_
      cases fin with
      | ret v m1 =>
       obtain ⟨ρ1, v', rfl, zu, lK, hs⟩ := hp
       simp only [xX] at h;rw [nJ] at h;exact next lK hs ((hF.ext hs.ext).put AZ zu) h
      | gO v m1 =>
       obtain ⟨ρ1, v', rfl, zu, lK, hs⟩ := hp
       simp only [xX, bj] at h;subst h;exact ⟨ρ1, v', rfl, zu, lK, hs, hF.ext hs.ext⟩
     ·rw [h1]
      simp only [xX] at h;simp only [Oper.upon];rw [nJ] at h;exact next hR (.refl _ _ _) (hF.put AZ h2) h
   | panic x =>
    simp only [lJ] at h;rw [lJ] at hx;obtain ⟨x0, Rw, Rk⟩ := Mg hx
    cases um : fr.eval x <;> simp only [um, reduceCtorEq, bj] at h
    rename_i t v
    subst h;obtain ⟨v', ki, hv⟩ := QD (w := w) (P := P) Rw Rk hG hF.tm um
    rw [ki];exact ⟨ρ, v', rfl, hv, hR, .refl _ _ _, hF⟩
   | defer f args =>
    simp only [lJ] at h;rw [lJ] at hx;obtain ⟨f0, Wh, ts0, Rw, hf, Rj⟩ := Mh hx
    cases JR : fr.eval f <;> simp only [JR, reduceCtorEq] at h
    rename_i g x y
    have VI := iu hG hF.tm hf
    have hv := nN hG hF.tm Rj
    rw [JR] at VI;generalize H2 : a.eval f0 = av at VI
    cases VI with
    | @func _ _ _ x' y' PQ YO =>
    have ki : (execOp a.eval o).run P w = .ok (.defer { target := .fn (.func g) ⟨y'⟩, args := ⟨x'⟩ ++ Wh.map a.eval }) w := by
     simp only [execOp, Rw, resolve, H2, Deferred.ofValue, Sem.run_bind, Sem.run_pure, Result.andThen_ok]
    rw [ki];simp only [Oper.upon];rw [nJ] at h;have e1 : ((⟨x'⟩ : Array Value) ++ Wh.map a.eval).toList = x' ++ Wh.toList.map a.eval := by simp
    have hF2 : B7 ρ n ⟨fr.tmps, (g, x ++ args.map fr.eval ++ y) :: fr.defers⟩ { a with defers := { target := .fn (.func g) ⟨y'⟩, args := ⟨x'⟩ ++ Wh.map a.eval } :: a.defers } :=
     ⟨⟨hF.tm.size, hF.tm.tmp⟩, .cons ⟨⟨y'⟩, rfl, by rw [e1]; exact (PQ.append hv).append YO⟩ hF.F5⟩
    exact next hR (.refl _ _ _) (hF2.put AZ .undef) h
end
end
section
section
variable {P : Program} {G : List Nat} {n : Nat} {call : Call} {chk : List (Nat × Nat)} {B0 : Nat}
inductive At (call : Call) (B0 : Nat) (o : bd) (i : Nat) (fr : Fr) (m : Mem) (v : EV) (m' : Mem) : Prop
 | skip (hw : bm fr o.guard = some false) (hv : v = .undef) (hm : m' = m)
 | pure (op : lL) (m1 : Mem) (hw : bm fr o.guard = some true) (ho : o.op = .val op) (hs : cZ op = 0) (h : aF fr.eval op m = some (.val v m1)) (hm : m' = m)
 | make (op : lL) (m1 : Mem) (hw : bm fr o.guard = some true) (ho : o.op = .val op) (hs : cZ op = 1) (h : aF fr.eval op ⟨B0 + i, m.gM⟩ = some (.val v m1)) (hm : m' = ⟨m.next, m1.gM⟩)
 | load (agg : Option Nat) (a : aZ) (hw : bm fr o.guard = some true) (ho : o.op = .val (.load agg a)) (h : m.load agg (fr.eval a) = some v) (hm : m' = m)
 | act (op : lL) (hw : bm fr o.guard = some true) (ho : o.op = .val op) (hs : 3 <= cZ op) (h : aF fr.eval op m = some (.val v m'))
 | call (f : aZ) (args : List aZ) (hw : bm fr o.guard = some true) (ho : o.op = .call f args) (h : fR call (fr.eval f) (args.map fr.eval) m = some (.ret v m'))
def ob (o : bd) (fr : Fr) : Prop := bm fr o.guard = some true /\ 3 <= sort o.op
def Fv (o : bd) (fr : Fr) (agg : Option Nat) (a : aZ) : Prop := bm fr o.guard = some true /\ o.op = .val (.load agg a) /\ GF (fr.eval a) = false
structure Canon (call : Call) (chk : List (Nat × Nat)) (B0 : Nat) (r : List bd) (i : Nat) (F : Nat -> Fr) (M : Nat -> Mem) (V : Nat -> EV) : Prop where
 at_ : ∀ k o, r[k]? = some o -> At call B0 o (i + k) (F (i + k)) (M (i + k)) (V (i + k)) (M (i + k + 1)) /\ F (i + k + 1) = (F (i + k)).put o.dst (V (i + k))
 c1 : ∀ k o agg a l q, r[k]? = some o -> r[l]? = some q -> Fv o (F (i + k)) agg a -> ob q (F (i + l)) -> bX (i + k) (i + l) chk = true ->
  (l < k -> (M (i + l)).eL agg ((F (i + k)).eval a) (V (i + k)) = true) /\ (k < l -> (M (i + l + 1)).eL agg ((F (i + k)).eval a) (V (i + k)) = true)
structure DS (call : Call) (chk : List (Nat × Nat)) (B0 : Nat) (r : List bd) (i : Nat) (jG : List (Nat × Mem)) (seen : List Seen) (F : Nat -> Fr) (M : Nat -> Mem) (V : Nat -> EV) : Prop extends Canon call chk B0 r i F M V where
 c2 : ∀ k o agg a, r[k]? = some o -> Fv o (F (i + k)) agg a -> ∀ j mj, (j, mj) ∈ jG -> bX (i + k) j chk = true -> mj.eL agg ((F (i + k)).eval a) (V (i + k)) = true
 c3 : ∀ l q, r[l]? = some q -> ob q (F (i + l)) -> ∀ s, s ∈ seen -> bX s.i (i + l) chk = true -> (M (i + l + 1)).eL s.agg s.a s.v = true
theorem Mf {o : bd} {r : List bd} {i : Nat} {fr fr' : Fr} {m m' : Mem} {v : EV} {jG uN : List (Nat × Mem)} {seen Bl : List Seen} {F' : Nat -> Fr} {M' : Nat -> Mem} {V' : Nat -> EV}
  (PU : At call B0 o i fr m v m') (WI : fr' = fr.put o.dst v) (hF : F' (i + 1) = fr') (hM : M' (i + 1) = m') (hc : DS call chk B0 r (i + 1) uN Bl F' M' V')
  (LQ : ∀ x, x ∈ jG -> x ∈ uN) (Tw : ∀ x, x ∈ seen -> x ∈ Bl) (RI : ob o fr -> (i, m) ∈ uN /\ ∀ s, s ∈ seen -> bX s.i i chk = true -> m'.eL s.agg s.a s.v = true)
  (Uz : ∀ agg a, Fv o fr agg a -> ⟨i, agg, fr.eval a, v⟩ ∈ Bl /\ ∀ j mj, (j, mj) ∈ jG -> bX i j chk = true -> mj.eL agg (fr.eval a) v = true) :
  ∃ F M V, F i = fr /\ M i = m /\ F (i + (r.length + 1)) = F' (i + 1 + r.length) /\ M (i + (r.length + 1)) = M' (i + 1 + r.length) /\ DS call chk B0 (o :: r) i jG seen F M V := by
 let F : Nat -> Fr := fun x => if x = i then fr else F' x
 let M : Nat -> Mem := fun x => if x = i then m else M' x
 let V : Nat -> EV := fun x => if x = i then v else V' x
 have F0 : F i = fr := if_pos rfl
 have M0 : M i = m := if_pos rfl
 have V0 : V i = v := if_pos rfl
 have FS : ∀ k, F (i + (k + 1)) = F' (i + 1 + k) := fun k => by show (if _ then _ else _) = _; rw [if_neg (by omega)]; congr 1; omega
 have MS : ∀ k, M (i + (k + 1)) = M' (i + 1 + k) := fun k => by show (if _ then _ else _) = _; rw [if_neg (by omega)]; congr 1; omega
 have VS : ∀ k, V (i + (k + 1)) = V' (i + 1 + k) := fun k => by show (if _ then _ else _) = _; rw [if_neg (by omega)]; congr 1; omega
 have F1 : F (i + 0 + 1) = fr' := by have := FS 0; rw [show i + 0 + 1 = i + (0 + 1) by omega, this]; exact hF
 have M1 : M (i + 0 + 1) = m' := by have := MS 0; rw [show i + 0 + 1 = i + (0 + 1) by omega, this]; exact hM
 have FS1 : ∀ k, F (i + (k + 1) + 1) = F' (i + 1 + k + 1) := fun k => by rw [show i + (k + 1) + 1 = i + (k + 1 + 1) by omega, FS]; congr 1
 have Zc : ∀ k, M (i + (k + 1) + 1) = M' (i + 1 + k + 1) := fun k => by rw [show i + (k + 1) + 1 = i + (k + 1 + 1) by omega, MS]; congr 1
 have pr : ∀ k, i + (k + 1) = i + 1 + k := fun k => by omega
 refine ⟨F, M, V, F0, M0, FS _, MS _, ⟨⟨?_, ?_⟩, ?_, ?_⟩⟩
 ·intro k q hk
  cases k with
  | zero =>
   simp at hk; subst hk
   rw [F1, M1];simp only [Nat.add_zero, F0, M0, V0];exact ⟨PU, WI⟩
  | succ k =>
   simp at hk
   have := hc.at_ k q hk
   rw [FS, MS, VS, FS1, Zc, pr k];exact this
 ·intro k p agg a l q hk hl hL hA hp
  cases k with
  | zero =>
   simp at hk; subst hk
   simp only [Nat.add_zero, F0, V0] at hL hp ⊢
   cases l with
   | zero =>
    refine ⟨fun h => absurd h (by omega), fun h => absurd h (by omega)⟩
   | succ l =>
    simp at hl
    refine ⟨fun h => absurd h (by omega), fun _ => ?_⟩
    rw [Zc];rw [FS] at hA;rw [pr l] at hp;exact hc.c3 l q hl hA _ (Uz agg a hL).1 hp
  | succ k =>
   simp at hk
   rw [FS, VS] at *
   cases l with
   | zero =>
    simp at hl; subst hl
    simp only [Nat.add_zero, F0, M0] at hA hp ⊢
    refine ⟨fun _ => ?_, fun h => absurd h (by omega)⟩
    rw [pr k] at hp;exact hc.c2 k p agg a hk hL i m (RI hA).1 hp
   | succ l =>
    simp at hl
    rw [FS] at hA;rw [pr k, pr l] at hp;obtain ⟨g1, g2⟩ := hc.c1 k p agg a l q hk hl hL hA hp
    rw [MS, Zc];exact ⟨fun h => g1 (by omega), fun h => g2 (by omega)⟩
 ·intro k p agg a hk hL j mj hj hp
  cases k with
  | zero =>
   simp at hk; subst hk
   simp only [Nat.add_zero, F0, V0] at hL hp ⊢
   exact (Uz agg a hL).2 j mj hj hp
  | succ k =>
   simp at hk
   rw [FS, VS] at *
   rw [pr k] at hp;exact hc.c2 k p agg a hk hL j mj (LQ _ hj) hp
 ·intro l q hl hA s hs hp
  cases l with
  | zero =>
   simp at hl; subst hl
   rw [M1];simp only [Nat.add_zero, F0] at hA hp;exact (RI hA).2 s hs hp
  | succ l =>
   simp at hl
   rw [Zc];rw [FS] at hA;rw [pr l] at hp;exact hc.c3 l q hl hA s (Tw _ hs) hp
theorem Ai {i : Nat} {agg : Option Nat} {a v : EV} : ∀ {sn : List (Nat × Mem)}, bK chk i agg a v sn = true -> ∀ j mj, (j, mj) ∈ sn -> bX i j chk = true -> mj.eL agg a v = true
 | [], _, j, mj, h, _ => by simp at h
 | (x, y) :: sn, h, j, mj, hm, hp => by
  simp only [bK] at h;rcases o6.1 hm with e | hm
  ·cases e
   simp only [hp, cond_true] at h
   cases hs : y.eL agg a v <;> simp only [hs, cond_true, cond_false, rp] at h
   rfl
  ·have : bK chk i agg a v sn = true := by
    cases hq : bX i x chk <;> simp only [hq, cond_true, cond_false] at h
    ·exact h
    ·cases hs : y.eL agg a v <;> simp only [hs, cond_true, cond_false, rp] at h
     exact h
   exact Ai this j mj hm hp
theorem oP {j : Nat} {m : Mem} : ∀ {se : List Seen}, bc chk j m se = true -> ∀ s, s ∈ se -> bX s.i j chk = true -> m.eL s.agg s.a s.v = true
 | [], _, s, h, _ => by simp at h
 | x :: se, h, s, hm, hp => by
  simp only [bc] at h;rcases o6.1 hm with e | hm
  ·cases e
   simp only [hp, cond_true] at h
   cases hs : m.eL x.agg x.a x.v <;> simp only [hs, cond_true, cond_false, rp] at h
   rfl
  ·have : bc chk j m se = true := by
    cases hq : bX x.i j chk <;> simp only [hq, cond_true, cond_false] at h
    ·exact h
    ·cases hs : m.eL x.agg x.a x.v <;> simp only [hs, cond_true, cond_false, rp] at h
     exact h
   exact oP this s hm hp
theorem R9 : ∀ (r : List bd) (i : Nat) (fr : Fr) (m : Mem) (jG : List (Nat × Mem)) (seen : List Seen) (out : Out), dR call chk B0 r i fr m jG seen = some out ->
  ∃ F M V, F i = fr /\ M i = m /\ out = .norm (F (i + r.length)) (M (i + r.length)) /\ DS call chk B0 r i jG seen F M V := by
 intro r
 induction r with
 | nil =>
  intro i fr m jG seen out h
  simp only [dR, bj] at h;subst h;exact ⟨fun _ => fr, fun _ => m, fun _ => .undef, rfl, rfl, rfl, ⟨⟨by simp, by simp⟩, by simp, by simp⟩⟩
 | cons o r ih =>
  intro i fr m jG seen out h
  -- one operation, and what follows
  have go : ∀ {v : EV} {m' : Mem} {uN : List (Nat × Mem)} {Bl : List Seen}, At call B0 o i fr m v m' -> dR call chk B0 r (i + 1) (fr.put o.dst v) m' uN Bl = some out ->
    (∀ x, x ∈ jG -> x ∈ uN) -> (∀ x, x ∈ seen -> x ∈ Bl) -> (ob o fr -> (i, m) ∈ uN /\ ∀ s, s ∈ seen -> bX s.i i chk = true -> m'.eL s.agg s.a s.v = true) ->
    (∀ agg a, Fv o fr agg a -> ⟨i, agg, fr.eval a, v⟩ ∈ Bl /\ ∀ j mj, (j, mj) ∈ jG -> bX i j chk = true -> mj.eL agg (fr.eval a) v = true) ->
    ∃ F M V, F i = fr /\ M i = m /\ out = .norm (F (i + (o :: r).length)) (M (i + (o :: r).length)) /\ DS call chk B0 (o :: r) i jG seen F M V := by
   intro v m' uN Bl PU hr h1 h2 h3 h4
   obtain ⟨F', M', V', e1, e2, e3, hc⟩ := ih (i + 1) _ _ _ _ out hr
   obtain ⟨F, M, V, f1, f2, f3, f4, va⟩ := Mf PU rfl e1 e2 hc h1 h2 h3 h4
   exact ⟨F, M, V, f1, f2, by rw [List.length_cons, f3, f4]; exact e3, va⟩
  simp only [dR] at h
  cases hw : bm fr o.guard with
  | none => simp [hw] at h
  | some b =>
  cases b with
  | false =>
   simp only [hw] at h;exact go (.skip hw rfl rfl) h (fun _ h => h) (fun _ h => h) (fun ha => by have := ha.1; rw [hw] at this; cases this) (fun _ _ hl => by have := hl.1; rw [hw] at this; cases this)
  | true =>
   simp only [hw] at h
   cases ho : o.op with
   | panic x => simp [ho] at h
   | defer f x => simp [ho] at h
   | call f args =>
    simp only [ho] at h
    cases hc : fR call (fr.eval f) (args.map fr.eval) m with
    | none => simp [hc] at h
    | some fin =>
     cases fin with
     | gO v m1 => simp [hc] at h
     | ret v m1 =>
      simp only [hc] at h
      cases hk : bc chk i m1 seen <;> simp only [hk, cond_true, cond_false, reduceCtorEq] at h
      exact go (.call f args hw ho hc) h (fun _ h => AA _ h) (fun _ h => h) (fun _ => ⟨by simp, oP hk⟩) (fun _ _ hl => by have := hl.2.1; rw [ho] at this; cases this)
   | val op =>
    simp only [ho] at h;have MV : cZ op < 3 -> ob o fr -> False := fun hs ha => by have := ha.2; rw [ho] at this; simp only [sort] at this; omega
    have Lk : cZ op ≠ 2 -> ∀ agg a, Fv o fr agg a -> False := fun hs agg a hl => by
     have := hl.2.1; rw [ho] at this; cases this; exact hs rfl
    split at h
    ·rename_i hs
     cases rU : aF fr.eval op m with
     | none => simp [rU] at h
     | some q =>
      obtain ⟨v, m1⟩ := q
      simp only [rU] at h;exact go (.pure op m1 hw ho hs rU rfl) h (fun _ h => h) (fun _ h => h) (fun ha => (MV (by omega) ha).elim) (fun _ _ hl => (Lk (by omega) _ _ hl).elim)
    ·rename_i hs
     cases rU : aF fr.eval op ⟨B0 + i, m.gM⟩ with
     | none => simp [rU] at h
     | some q =>
      obtain ⟨v, m1⟩ := q
      simp only [rU] at h;exact go (.make op m1 hw ho hs rU rfl) h (fun _ h => h) (fun _ h => h) (fun ha => (MV (by omega) ha).elim) (fun _ _ hl => (Lk (by omega) _ _ hl).elim)
    ·rename_i hs
     cases op <;> simp only [reduceCtorEq] at h
     rename_i agg a
     cases hl : m.load agg (fr.eval a) with
     | none => simp [hl] at h
     | some v =>
      simp only [hl] at h
      cases hf : GF (fr.eval a) <;> simp only [hf, cond_true, cond_false] at h
      ·cases hk : bK chk i agg (fr.eval a) v jG <;> simp only [hk, cond_true, cond_false, reduceCtorEq] at h
       refine go (.load agg a hw ho hl rfl) h (fun _ h => h) (fun _ h => AA _ h) (fun ha => (MV (by rw [hs]; omega) ha).elim) (fun YA a' zz => ?_)
       have := zz.2.1; rw [ho] at this; cases this
       exact ⟨by simp, Ai hk⟩
      ·cases hk : dV chk i m.next jG <;> simp only [hk, cond_true, cond_false, reduceCtorEq] at h
       refine go (.load agg a hw ho hl rfl) h (fun _ h => h) (fun _ h => h) (fun ha => (MV (by rw [hs]; omega) ha).elim) (fun YA a' zz => ?_)
       have := zz.2.1; rw [ho] at this; cases this
       have := zz.2.2; rw [hf] at this; cases this
    ·rename_i h0 h1 h2
     have hs : 3 <= cZ op := by
      rcases Nat.lt_or_ge (cZ op) 3 with h3 | h3
      ·exfalso
       have : cZ op = 0 \/ cZ op = 1 \/ cZ op = 2 := by omega
       rcases this with e | e | e
       ·exact h0 e
       ·exact h1 e
       ·exact h2 e
      ·exact h3
     cases rU : aF fr.eval op m with
     | none => simp [rU] at h
     | some q =>
      obtain ⟨v, m1⟩ := q
      simp only [rU] at h
      cases hk : bc chk i m1 seen <;> simp only [hk, cond_true, cond_false, reduceCtorEq] at h
      exact go (.act op hw ho hs rU) h (fun _ h => AA _ h) (fun _ h => h) (fun _ => ⟨by simp, oP hk⟩) (fun _ _ hl => (Lk (by omega) _ _ hl).elim)
end
end
section
structure Mw (ops : Array Oper) (l : List Nat) : Prop where
 nodup : l.Nodup
 all : ∀ i, i ∈ l ↔ i < ops.size
 Yn : ∀ (k i : Nat) (o : Oper) (e : Edge), l[k]? = some i -> ops[i]? = some o -> e ∈ o.after -> fN e = true -> e.on ∈ l.take k
theorem Jb {e : Edge} (h : fN e = true) : Region.binds .any e = true := by
 unfold fN at h;unfold Region.binds
 cases hg : e.ground <;> simp_all
theorem A3 : ∀ (l : List Oper) (i : Nat), vb l i = true -> ∀ (k : Nat) (o : Oper) (e : Edge), l[k]? = some o -> e ∈ o.after -> fN e = true -> e.on < i + k
 | [], i, _, k, o, e, h, _, _ => by simp at h
 | x :: l, i, hd, k, o, e, h, he, hp => by
  simp only [vb, pL] at hd
  cases k with
  | zero =>
   simp at h; subst h
   have := List.all_eq_true.1 hd.1 e (by simpa using he)
   simp [hp] at this
   omega
  | succ k =>
   have := A3 l (i + 1) hd.2 k o e (by simpa using h) he hp
   omega
theorem y8 : ∀ (n : Nat) (l : List Nat), l.Nodup -> (∀ x, x ∈ l -> x < n) -> l.length <= n
 | 0, l, _, h => by
  cases l with
  | nil => simp
  | cons x l => exact absurd (h x (by simp)) (by omega)
 | n + 1, l, hn, h => by
  by_cases hm : n ∈ l
  ·have h1 := y8 n (l.erase n) (hn.erase n) (fun x hx => by
    have h2 := (hn.mem_erase_iff).1 hx
    have := h x h2.2
    have := h2.1
    omega)
   rw [List.length_erase_of_mem hm] at h1;omega
  ·have h1 := y8 n l hn (fun x hx => by
    have h2 := h x hx
    have : x ≠ n := fun e => hm (e ▸ hx)
    omega)
   omega
theorem OM {n : Nat} {l : List Nat} (hn : l.Nodup) (h : ∀ x, x ∈ l -> x < n) (hl : l.length = n) : ∀ i, i < n -> i ∈ l := by
 intro i hi
 apply B9
 intro hni
 have := y8 n (i :: l) (List.nodup_cons.2 ⟨hni, hn⟩) (fun x hx => by
  rcases o6.1 hx with rfl | hx
  ·exact hi
  ·exact h x hx)
 simp at this
 omega
theorem OL {l : List Nat} (h : l.Nodup) : l.reverse.Nodup := List.pairwise_reverse.2 (List.Pairwise.imp (fun h => Ne.symm h) h)
theorem Q3 (ops : Array Oper) (zA : vb ops.toList 0 = true) : ∀ (fuel t : Nat) (listed : Array Bool) (acc : List Nat), listed.size = ops.size -> (∀ i, listed.getD i true = false ↔ (i < ops.size /\ i ∉ acc)) -> (∀ i, i ∈ acc -> i < ops.size) -> acc.Nodup -> acc.length + fuel = ops.size ->
  (∀ (k i : Nat) (o : Oper) (e : Edge), acc.reverse[k]? = some i -> ops[i]? = some o -> e ∈ o.after -> fN e = true -> e.on ∈ acc.reverse.take k) ->
  Mw ops (Region.linearise.go .any ops fuel t listed acc)
 | 0, t, listed, acc, uo, hl, bg, hnd, hlen, hed => by
  simp only [Region.linearise.go];refine ⟨OL hnd, fun i => ?_, hed⟩
  rw [List.mem_reverse];exact ⟨bg i, OM hnd bg (by omega) i⟩
 | fuel + 1, t, listed, acc, uo, hl, bg, hnd, hlen, hed => by
  simp only [Region.linearise.go]
  -- W1 is ready: the least Oo is not listed
  have hex : ∃ i, i < ops.size /\ i ∉ acc := by
   apply B9
   intro mS
   have hall : ∀ i, i < ops.size -> i ∈ acc := fun x hx => B9 fun YP => mS ⟨x, hx, YP⟩
   have h1 : (List.range ops.size).length <= acc.length := by
    have h2 := y8 acc.length ((List.range ops.size).map fun x => acc.idxOf x) ?_ ?_
    ·simpa using h2
    ·have abw : ∀ x, x < ops.size -> ∀ y, y < ops.size -> acc.idxOf x = acc.idxOf y -> x = y := by
      intro x hx y hy hxy
      have e1 := List.getElem_idxOf (List.idxOf_lt_length_iff.2 (hall x hx))
      have e2 := List.getElem_idxOf (List.idxOf_lt_length_iff.2 (hall y hy))
      rw [<- e1, <- e2]
      congr 1
     rw [List.Nodup, List.pairwise_map];refine List.Pairwise.imp_of_mem ?_ (List.nodup_range (n := ops.size))
     intro a b ha hb hab e
     exact hab (abw a (by simpa using ha) b (by simpa using hb) e)
    ·intro x hx
     obtain ⟨y, hy, rfl⟩ := List.mem_map.1 hx
     exact List.idxOf_lt_length_iff.2 (hall y (by simpa using hy))
   simp at h1
   omega
  generalize Xw : (List.range ops.size).filter (fun i => !listed.getD i true && ((ops[i]?).map (fun x => x.after.all fun e => !Region.binds .any e || listed.getD e.on false)).getD false) = rs
  have pS : ∀ i, i ∈ rs ↔ i < ops.size /\ listed.getD i true = false /\ ∀ o, ops[i]? = some o -> ∀ e ∈ o.after, Region.binds .any e = true -> listed.getD e.on false = true := by
   intro i
   rw [<- Xw];simp only [List.mem_filter, List.mem_range, pL, Bool.not_eq_true']
   constructor
   ·rintro ⟨h1, h2, h3⟩
    refine ⟨h1, h2, fun o ho e he hb => ?_⟩
    rw [ho] at h3;simp only [Option.map_some, Option.getD_some, Array.all_eq_true_iff_forall_mem] at h3;have := h3 e he
    simpa [hb] using this
   ·rintro ⟨h1, h2, h3⟩
    refine ⟨h1, h2, ?_⟩
    have ho : ops[i]? = some ops[i] := Array.getElem?_eq_getElem h1
    rw [ho];simp only [Option.map_some, Option.getD_some, Array.all_eq_true_iff_forall_mem];intro e he
    cases hb : Region.binds .any e with
    | false => rfl
    | true => simpa using h3 _ ho e he hb
  have VK : ∀ i, listed.getD i false = true ↔ (i < ops.size /\ i ∈ acc) := by
   intro i
   have h1 := hl i
   by_cases hi : i < ops.size
   ·have e1 : listed.getD i true = listed.getD i false := by simp [Array.getD, uo, hi]
    rw [e1] at h1
    cases hb : listed.getD i false with
    | true => rw [hb] at h1; simp at h1; exact ⟨fun _ => ⟨hi, h1 hi⟩, fun _ => rfl⟩
    | false => rw [hb] at h1; simp at h1; exact ⟨fun h => (by cases h), fun h => absurd h.2 h1.2⟩
   ·have e2 : listed.getD i false = false := by simp [Array.getD, uo, hi]
    rw [e2];exact ⟨fun h => (by cases h), fun h => absurd h.1 hi⟩
  have iJ : rs ≠ [] := by
   -- the least one
   obtain ⟨i, hi⟩ : ∃ i, (i < ops.size /\ i ∉ acc) /\ ∀ j, j < i -> ¬ (j < ops.size /\ j ∉ acc) := by
    obtain ⟨i, hi⟩ := hex
    induction i using Nat.strongRecOn with
    | _ i ih =>
     by_cases h : ∃ j, j < i /\ (j < ops.size /\ j ∉ acc)
     ·obtain ⟨j, hj, VH⟩ := h; exact ih j hj VH
     ·exact ⟨i, hi, fun j hj h2 => h ⟨j, hj, h2⟩⟩
   intro abk
   have : i ∈ rs := by
    rw [pS];refine ⟨hi.1.1, (hl i).2 hi.1, fun o ho e he hb => ?_⟩
    rw [VK];have hp : fN e = true := by
     unfold Region.binds at hb;unfold fN
     cases hg : e.ground <;> simp_all
    have mT : e.on < i := by
     have := A3 ops.toList 0 zA i o e (by simpa using ho) he hp
     omega
    have h2 := hi.2 e.on mT
    refine ⟨by omega, ?_⟩
    apply B9
    intro h3
    exact h2 ⟨by omega, h3⟩
   rw [abk] at this;simp at this
  have dD : 0 < rs.length := List.length_pos_iff.2 iJ
  have XP : t % rs.length < rs.length := Nat.mod_lt _ dD
  rw [lp XP];simp only
  have hi : rs[t % rs.length] ∈ rs := BI XP
  generalize rs[t % rs.length] = i at hi
  obtain ⟨h1, h2, h3⟩ := (pS i).1 hi
  have hni : i ∉ acc := ((hl i).1 h2).2
  refine Q3 ops zA fuel _ _ (i :: acc) (by simpa using uo) (fun j => ?_) (fun j hj => ?_) (List.nodup_cons.2 ⟨hni, hnd⟩) (by simp; omega) ?_
  ·by_cases e : j = i
   ·subst e
    have : (listed.setIfInBounds j true).getD j true = true := by simp [Array.getD_eq_getD_getElem?, uo, h1]
    rw [this];simp
   ·have : (listed.setIfInBounds i true).getD j true = listed.getD j true := by
     rw [Array.getD_eq_getD_getElem?, Array.getElem?_setIfInBounds_ne (fun h => e h.symm), <- Array.getD_eq_getD_getElem?]
    rw [this, hl j];simp [e]
  ·rcases o6.1 hj with rfl | hj
   ·exact h1
   ·exact bg j hj
  ·intro k j o e hk ho he hp
   rw [List.reverse_cons] at hk ⊢
   by_cases GM : k < acc.reverse.length
   ·rw [B8 GM] at hk
    rw [List.take_append_of_le_length (by omega)];exact hed k j o e hk ho he hp
   ·have abt : k = acc.reverse.length := by
     have := (rn.1 hk).1
     simp at this GM ⊢
     omega
    subst abt;rw [FF (eX _)] at hk;simp at hk
    subst hk;rw [List.take_append_of_le_length (eX _), List.take_length];have := (VK e.on).1 (h3 o ho e he (Jb hp))
    exact List.mem_reverse.2 this.2
theorem Hr {P : Program} (iK : P.follows .mixedOrders = true) (ops : Array Oper) (zA : vb ops.toList 0 = true) (t : Nat) : Mw ops (Region.schedule (P.follows .mixedOrders) ops t) := by
 unfold Region.schedule;rw [iK];simp only [Bool.true_or, if_true];unfold Region.linearise;exact Q3 ops zA ops.size t _ [] (by simp) (fun i => by
  by_cases hi : i < ops.size
  ·simp [Array.getD_eq_getD_getElem?, hi]
  ·simp [Array.getD_eq_getD_getElem?, hi]) (by simp) (by simp) (by simp) (by simp)
theorem ug : ∀ (l : List Oper) (acc : List (List Nat)) (i : Nat), i < acc.length -> (fx l acc)[i]? = acc[i]?
 | [], acc, i, _ => rfl
 | o :: l, acc, i, h => by
  simp only [fx];rw [ug l _ i (by simp; omega), B8 h]
theorem Fj : ∀ (l : List Oper) (acc : List (List Nat)) (k : Nat) (o : Oper), l[k]? = some o ->
  ∃ Kz : List (List Nat), (fx l acc)[acc.length + k]? = some ((o.after.toList.filter fN).flatMap fun e => e.on :: Kz.getD e.on []) /\ Kz.length = acc.length + k /\ ∀ i, i < Kz.length -> Kz[i]? = (fx l acc)[i]?
 | [], acc, k, o, h => by simp at h
 | x :: l, acc, k, o, h => by
  cases k with
  | zero =>
   simp at h; subst h
   refine ⟨acc, ?_, rfl, fun i hi => ?_⟩
   ·simp only [fx]
    rw [ug l _ _ (by simp)];simp
   ·simp only [fx]
    rw [ug l _ i (by simp; omega), B8 hi]
  | succ k =>
   simp only [fx];obtain ⟨Kz, h1, h2, h3⟩ := Fj l (acc ++ [(x.after.toList.filter fN).flatMap fun e => e.on :: acc.getD e.on []]) k o (by simpa using h)
   refine ⟨Kz, ?_, by rw [h2]; simp; omega, h3⟩
   rw [<- h1]; congr 1; simp; omega
theorem F8 {ops : Array Oper} (zA : vb ops.toList 0 = true) {l : List Nat} (hl : Mw ops l) : ∀ (j k : Nat), l[k]? = some j -> ∀ i, i ∈ (fx ops.toList []).getD j [] -> i ∈ l.take k := by
 intro j
 induction j using Nat.strongRecOn with
 | _ j ih =>
  intro k hk i hi
  have hj : j < ops.size := (hl.all j).1 (List.mem_of_getElem? hk)
  have ho : ops.toList[j]? = some ops[j] := by simp [hj]
  obtain ⟨Kz, h1, h2, h3⟩ := Fj ops.toList [] j ops[j] ho
  simp only [List.length_nil, Nat.zero_add] at h1 h2;rw [List.getD_eq_getElem?_getD, h1, Option.getD_some] at hi;obtain ⟨e, he, hi⟩ := List.mem_flatMap.1 hi
  obtain ⟨Y0, WJ⟩ := List.mem_filter.1 he
  have bg : e.on < j := by
   have := A3 ops.toList 0 zA j ops[j] e ho (by simpa using Y0) WJ
   omega
  have hon := hl.Yn k j ops[j] e hk (Array.getElem?_eq_getElem hj) (by simpa using Y0) WJ
  rcases o6.1 hi with rfl | hi
  ·exact hon
  ·have abL : Kz.getD e.on [] = (fx ops.toList []).getD e.on [] := by
    rw [List.getD_eq_getElem?_getD, List.getD_eq_getElem?_getD, h3 e.on (by omega)]
   rw [abL] at hi;obtain ⟨k', nS⟩ := List.mem_iff_getElem?.1 hon
   have UB : k' < k := by
    have := (rn.1 nS).1
    simp at this; omega
   rw [List.getElem?_take, if_pos UB] at nS
   have := ih e.on bg k' nS i hi
   exact (List.take_subset_take_left l (Nat.le_of_lt UB)) this
end
section
section
variable {G : List Nat} {base : Nat} {ρ : eF} {m : Mem} {w : World} {P : Program} {n : Nat} {fr : Fr} {a : Act}
theorem Ly {o : Oper} {io : lL} (hc : UK P G o = some io) (hs : cZ io = 1) (hG : jJ G ρ) (hR : RN base ρ m w) (hF : FR ρ n fr a) {v : EV} {m1 : Mem} (h : aF fr.eval io m = some (.val v m1)) :
  ∃ B, m1 = m.new B /\ ∃ ρ' w' v', (execOp a.eval o).run P w = .ok (.value v') w' /\ VR ρ' v v' /\ Made base ρ m w ρ' B w' := by
 have E : ∀ {x : Operand} {y : aZ}, ff G x = some y -> VR ρ (fr.eval y) (a.eval x) := fun h => iu hG hF h
 have fin : ∀ {s : Sem Value} {B : fM}, execOp a.eval o = (do pure (Next.value (<- s)) : Sem Next) -> vz P s base ρ m w v B -> ∃ ρ' w' v', (execOp a.eval o).run P w = .ok (.value v') w' /\ VR ρ' v v' /\ Made base ρ m w ρ' B w' := by
  rintro s B he ⟨ρ', w', v', h1, h2, h3⟩
  exact ⟨ρ', w', v', by rw [he]; simp [h1], h2, h3⟩
 unfold UK at hc
 split at hc
 case h_1 => obtain ⟨_, _, rfl⟩ := ag hc; simp [cZ] at hs
 case h_2 => obtain ⟨_, _, rfl⟩ := ag hc; simp [cZ] at hs
 case h_3 => obtain ⟨_, _, hc⟩ := af hc; obtain ⟨_, _, hc⟩ := af hc; obtain ⟨_, _, rfl⟩ := ag hc; simp [cZ] at hs
 case h_4 e ho =>
  obtain ⟨z, hz, rfl⟩ := ag hc
  simp only [aF, bj, R1.val.injEq] at h;obtain ⟨rfl, rfl⟩ := h
  exact ⟨_, rfl, fin (by simp only [execOp, ho]) (Fm hR hz)⟩
 case h_5 e x ho =>
  obtain ⟨y, hy, rfl⟩ := ag hc
  simp only [aF] at h
  cases mF : (fr.eval y).cells with
  | none => simp [mF] at h
  | some cs =>
   simp only [mF, bj, R1.val.injEq] at h;obtain ⟨rfl, rfl⟩ := h
   exact ⟨_, rfl, fin (by simp only [execOp, ho]) (Kr hR (E hy) mF)⟩
 case h_6 =>
  obtain ⟨_, _, hc⟩ := af hc
  rcases fX hc with hc | hc
  ·obtain ⟨_, _, hc⟩ := af hc; obtain ⟨_, _, hc⟩ := af hc; obtain ⟨_, _, rfl⟩ := ag hc; simp [cZ] at hs
  ·obtain ⟨_, _, hc⟩ := af hc; obtain ⟨_, _, hc⟩ := af hc; obtain ⟨_, _, rfl⟩ := ag hc; simp [cZ] at hs
 case h_7 t len parts ho =>
  obtain ⟨e, hu, hc⟩ := af hc
  obtain ⟨s, uo, hc⟩ := af hc
  obtain ⟨z, hz, hc⟩ := af hc
  obtain ⟨ps, hp, hc⟩ := af hc
  obtain ⟨_, HX, hc⟩ := af hc
  obtain ⟨_, hl, rfl⟩ := ag hc
  have hu := kf hu
  simp only [aF] at h
  cases mF : fu (eE len z) (ps.map fun p => (p.1 * s, s, fr.eval p.2)) with
  | none => simp [mF] at h
  | some cs =>
   simp only [mF, bj, R1.val.injEq] at h;obtain ⟨rfl, rfl⟩ := h
   obtain ⟨p1, p2⟩ := mapM_some _ hp
   have hb := BF (P := P) hR hu uo hz (aV (jy HX)) (rc (jy hl)) (qs := parts.toList.map fun p => (p.1, a.eval p.2)) (by simpa using p1.symm) (fun i p q hp' GK => by
    rw [List.getElem?_map] at hp' GK
    obtain ⟨p0, LR, rfl⟩ := kr.1 hp'
    obtain ⟨q0, XB, rfl⟩ := kr.1 GK
    obtain ⟨x, hx, hxp⟩ := ag (p2 i q0 p0 XB LR)
    subst hxp;exact ⟨⟨rfl, rfl⟩, E hx⟩) mF
   have : (parts.map fun (i, x) => (i, a.eval x)) = (⟨parts.toList.map fun p => (p.1, a.eval p.2)⟩ : Array (Nat × Value)) := by apply Array.ext'; simp
   exact ⟨_, rfl, fin (by simp only [execOp, ho]; rw [this]) hb⟩
 case h_8 => obtain ⟨_, _, hc⟩ := af hc; obtain ⟨_, _, rfl⟩ := ag hc; simp [cZ] at hs
 case h_9 => obtain ⟨_, _, hc⟩ := af hc; obtain ⟨_, _, hc⟩ := af hc; obtain ⟨_, _, rfl⟩ := ag hc; simp [cZ] at hs
 case h_10 => obtain ⟨_, _, rfl⟩ := ag hc; simp [cZ] at hs
 case h_11 op t x y yt ho =>
  obtain ⟨_, _, hc⟩ := af hc; obtain ⟨_, _, hc⟩ := af hc
  split at hc
  ·unfold UL at hc
   simp only [Bool.cond_eq_ite] at hc
   split at hc <;> (obtain ⟨_, _, rfl⟩ := ag hc; simp [cZ] at hs)
  ·unfold UL at hc
   simp only [Bool.cond_eq_ite] at hc
   split at hc <;> (obtain ⟨_, _, rfl⟩ := ag hc; simp [cZ] at hs)
  ·cases hc; simp [cZ] at hs
 case h_12 => obtain ⟨_, _, rfl⟩ := ag hc; simp [cZ] at hs
 case h_13 s d x ho =>
  obtain ⟨y, hy, hc⟩ := af hc
  rcases fX hc with hc | hc
  ·obtain ⟨_, _, hc⟩ := af hc; obtain ⟨_, _, rfl⟩ := ag hc; simp [cZ] at hs
  rcases fX hc with hc | hc
  ·obtain ⟨_, _, hc⟩ := af hc; obtain ⟨_, _, rfl⟩ := ag hc; simp [cZ] at hs
  rcases fX hc with hc | hc
  ·obtain ⟨_, hsu, hc⟩ := af hc
   obtain ⟨e, hd, hc⟩ := af hc
   obtain ⟨k, he, hc⟩ := af hc
   obtain ⟨_, hk, rfl⟩ := ag hc
   have hk : k = .u8 := by have := aV (jy hk); cases k <;> simp [b6] at this; rfl
   subst hk;simp only [aF] at h;obtain ⟨B, rfl, hB⟩ := Fb (P := P) hR (kX hsu) (kf hd) (Cc he) (E hy) (lO h)
   exact ⟨B, rfl, fin (by simp only [execOp, ho]) hB⟩
  ·obtain ⟨_, _, hc⟩ := af hc; obtain ⟨_, _, hc⟩ := af hc; obtain ⟨_, _, hc⟩ := af hc; obtain ⟨_, _, rfl⟩ := ag hc; simp [cZ] at hs
 case h_14 => obtain ⟨_, _, hc⟩ := af hc; obtain ⟨_, _, rfl⟩ := ag hc; simp [cZ] at hs
 case h_15 => obtain ⟨_, _, hc⟩ := af hc; obtain ⟨_, _, rfl⟩ := ag hc; simp [cZ] at hs
 case h_16 t ho =>
  obtain ⟨_, _, rfl⟩ := ag hc
  simp only [aF, bj, R1.val.injEq] at h;obtain ⟨rfl, rfl⟩ := h
  refine ⟨_, rfl, fin (by simp only [execOp, ho]) (s := Instr.makeMap t (none.map a.eval)) ?_⟩
  have := tf (P := P) hR
  simpa [Instr.makeMap] using this
 case h_17 t k z ho =>
  obtain ⟨q, hu, rfl⟩ := ag hc
  have hu := yr hu
  simp only [aF, bj, R1.val.injEq] at h;obtain ⟨rfl, rfl⟩ := h
  refine ⟨_, rfl, fin (by simp only [execOp, ho]) (s := Instr.makeMap t ((some (.const (.int k z))).map a.eval)) ?_⟩
  obtain ⟨ρ', w', v', h1, h2⟩ := tf (P := P) hR
  exact ⟨ρ', w', v', by simpa [Instr.makeMap, run_underlying hu, Act.eval, asInt, asIntOf] using h1, h2⟩
 case h_18 t l c ho =>
  obtain ⟨e, hu, hc⟩ := af hc
  obtain ⟨i, hi, hc⟩ := af hc
  obtain ⟨z, hz, hc⟩ := af hc
  obtain ⟨l', hl, hc⟩ := af hc
  obtain ⟨c', va, hc⟩ := af hc
  obtain ⟨_, HX, hc⟩ := af hc
  obtain ⟨_, hb, rfl⟩ := ag hc
  have xu := E hl
  have LX := E va
  simp only [aF] at h;have hex : execOp a.eval o = (do pure (Next.value (<- Instr.makeSlice t (a.eval l) (a.eval c))) : Sem Next) := by simp only [execOp, ho]
  generalize fr.eval l' = el at xu h
  generalize fr.eval c' = ec at LX h
  generalize a.eval l = al at xu hex
  generalize a.eval c = ac at LX hex
  cases xu <;> (try simp only [reduceCtorEq] at h)
  rename_i k1 n1
  cases k1 <;> (try simp only [reduceCtorEq] at h)
  cases n1 <;> (try simp only [reduceCtorEq] at h)
  rename_i ln
  cases LX <;> (try simp only [reduceCtorEq] at h)
  rename_i k2 n2
  cases k2 <;> (try simp only [reduceCtorEq] at h)
  cases n2 <;> (try simp only [reduceCtorEq] at h)
  rename_i cn
  cases h1 : ln.ble cn <;> simp only [h1, cond_true, cond_false, reduceCtorEq] at h
  cases h2 : cn.ble room <;> simp only [h2, cond_true, cond_false, reduceCtorEq, bj, R1.val.injEq] at h
  obtain ⟨rfl, rfl⟩ := h
  exact ⟨_, rfl, fin hex (ze hR (kf hu) hi hz (aV (jy HX)) (rc (jy hb)) (rc h1) (rc h2))⟩
 case h_19 =>
  obtain ⟨_, _, hc⟩ := af hc; obtain ⟨_, _, hc⟩ := af hc; obtain ⟨_, _, hc⟩ := af hc; obtain ⟨_, _, hc⟩ := af hc; obtain ⟨_, _, hc⟩ := af hc
  rcases fX hc with hc | hc
  ·obtain ⟨_, _, hc⟩ := af hc; obtain ⟨_, _, rfl⟩ := ag hc; simp [cZ] at hs
  rcases fX hc with hc | hc
  ·obtain ⟨_, _, hc⟩ := af hc; obtain ⟨_, _, rfl⟩ := ag hc; simp [cZ] at hs
  ·obtain ⟨_, _, hc⟩ := af hc; obtain ⟨_, _, rfl⟩ := ag hc; simp [cZ] at hs
 case h_20 => obtain ⟨_, _, hc⟩ := af hc; obtain ⟨_, _, hc⟩ := af hc; obtain ⟨_, _, hc⟩ := af hc; obtain ⟨_, _, hc⟩ := af hc; obtain ⟨_, _, rfl⟩ := ag hc; simp [cZ] at hs
 case h_21 => obtain ⟨_, _, hc⟩ := af hc; obtain ⟨_, _, hc⟩ := af hc; obtain ⟨_, _, hc⟩ := af hc; obtain ⟨_, _, rfl⟩ := ag hc; simp [cZ] at hs
 case h_22 =>
  obtain ⟨_, _, hc⟩ := af hc; obtain ⟨_, _, hc⟩ := af hc
  rcases fX hc with hc | hc
  ·obtain ⟨_, _, hc⟩ := af hc; obtain ⟨_, _, rfl⟩ := ag hc; simp [cZ] at hs
  ·obtain ⟨_, _, hc⟩ := af hc; obtain ⟨_, _, rfl⟩ := ag hc; simp [cZ] at hs
 case h_23 =>
  obtain ⟨_, _, hc⟩ := af hc; obtain ⟨_, _, hc⟩ := af hc
  rcases fX hc with hc | hc
  ·obtain ⟨_, _, rfl⟩ := ag hc; simp [cZ] at hs
  ·obtain ⟨_, _, hc⟩ := af hc; obtain ⟨_, _, hc⟩ := af hc; obtain ⟨_, _, rfl⟩ := ag hc; simp [cZ] at hs
 case h_24 => obtain ⟨_, _, hc⟩ := af hc; obtain ⟨_, _, hc⟩ := af hc; obtain ⟨_, _, hc⟩ := af hc; obtain ⟨_, _, hc⟩ := af hc; obtain ⟨_, _, rfl⟩ := ag hc; simp [cZ] at hs
 case h_25 => obtain ⟨_, _, hc⟩ := af hc; obtain ⟨_, _, hc⟩ := af hc; obtain ⟨_, _, hc⟩ := af hc; obtain ⟨_, _, hc⟩ := af hc; obtain ⟨_, _, rfl⟩ := ag hc; simp [cZ] at hs
 case h_26 => obtain ⟨_, _, hc⟩ := af hc; obtain ⟨_, _, hc⟩ := af hc; obtain ⟨_, _, hc⟩ := af hc; obtain ⟨_, _, hc⟩ := af hc; obtain ⟨_, _, rfl⟩ := ag hc; simp [cZ] at hs
 case h_27 => obtain ⟨_, _, hc⟩ := af hc; obtain ⟨_, _, rfl⟩ := ag hc; simp [cZ] at hs
 case h_28 => obtain ⟨_, _, rfl⟩ := ag hc; simp [cZ] at hs
 case h_29 c ho =>
  obtain ⟨ys, Rj, hc⟩ := af hc
  split at hc
  ·exfalso
   unfold vu at hc;simp only [Bool.cond_eq_ite] at hc
   split at hc
   ·split at hc <;> first | (cases hc; simp [cZ] at hs; done) | cases hc
   ·split at hc <;> first | (cases hc; simp [cZ] at hs; done) | cases hc
   ·cases hc; simp [cZ] at hs
   ·cases hc; simp [cZ] at hs
   ·obtain ⟨_, _, hc⟩ := af hc
    obtain ⟨_, _, hc⟩ := af hc
    obtain ⟨_, _, hc⟩ := af hc
    obtain ⟨_, _, hc⟩ := af hc
    obtain ⟨_, _, hc⟩ := af hc
    split at hc <;> first | (cases hc; simp [cZ] at hs; done) | cases hc
   ·split at hc
    ·split at hc <;> first | (cases hc; simp [cZ] at hs; done) | cases hc
    ·cases hc
   ·split at hc
    ·obtain ⟨_, _, rfl⟩ := ag hc; simp [cZ] at hs
    ·cases hc
   ·cases hc
  ·cases hc
 case h_30 => cases hc
theorem pt {l : List aZ} {f g : aZ -> EV} (h : ∀ x, x ∈ l -> f x = g x) : l.map f = l.map g := List.map_congr_left h
theorem jU {l : Option aZ} {f g : aZ -> EV} (h : ∀ x, x ∈ Es l -> f x = g x) : l.map f = l.map g := by
 cases l with
 | none => rfl
 | some x => simp [h x (by simp [Es])]
theorem x9 {f g : aZ -> EV} {op : lL} (h : ∀ x, x ∈ iS op -> f x = g x) (m : Mem) : aF f op m = aF g op m := by
 cases op
 case build z ps =>
  simp only [aF];rw [List.map_congr_left (g := fun p => (p.1, p.2.1, g p.2.2))];intro p hp
  rw [h p.2.2 (by simp only [iS, List.mem_map]; exact ⟨p, hp, rfl⟩)]
 case bB e s l z ps =>
  simp only [aF];rw [List.map_congr_left (g := fun p => (p.1 * s, s, g p.2))];intro p hp
  rw [h p.2 (by simp only [iS, List.mem_map]; exact ⟨p, hp, rfl⟩)]
 case BQ k x y =>
  simp only [aF];rw [pt (l := x) (fun z hz => h z (by simp [iS, hz])), pt (l := y) (fun z hz => h z (by simp [iS, hz]))]
 case max xs => simp only [aF]; rw [pt (l := xs) h]
 case min xs => simp only [aF]; rw [pt (l := xs) h]
 case gh x l hh =>
  simp only [aF];rw [h x (by simp [iS]), jU (l := l) (fun z hz => h z (by simp [iS, hz])), jU (l := hh) (fun z hz => h z (by simp [iS, hz]))]
 case uP e x l hh mm =>
  simp only [aF];rw [h x (by simp [iS]), jU (l := l) (fun z hz => h z (by simp [iS, hz])), jU (l := hh) (fun z hz => h z (by simp [iS, hz])), jU (l := mm) (fun z hz => h z (by simp [iS, hz]))]
 case xz e k x l hh mm =>
  simp only [aF];rw [h x (by simp [iS]), jU (l := l) (fun z hz => h z (by simp [iS, hz])), jU (l := hh) (fun z hz => h z (by simp [iS, hz])), jU (l := mm) (fun z hz => h z (by simp [iS, hz]))]
 all_goals
  simp only [iS, o6, List.not_mem_nil, or_false, forall_eq_or_imp, forall_eq] at h;simp only [aF, h]
theorem Ja {f : aZ -> EV} {op : lL} (hs : cZ op = 0) {m m1 : Mem} {v : EV} (h : aF f op m = some (.val v m1)) : m1 = m /\ ∀ m', aF f op m' = some (.val v m') := by
 have e1 : ∀ {x : Option EV}, gA m x = some (.val v m1) -> m1 = m /\ ∀ m', gA m' x = some (.val v m') := by
  intro x hx
  obtain ⟨h1, h2⟩ := fU hx
  exact ⟨h2, fun m' => by rw [h1]; rfl⟩
 cases op <;> simp only [cZ] at hs <;> (try (simp at hs; done))
 case conv c x =>
  cases c <;> simp at hs
  all_goals
   simp only [aF] at h ⊢
   have h1 := lO h
   generalize f x = e at h1 ⊢
   cases e <;> simp only [li, reduceCtorEq, bj, eQ] at h1
   obtain ⟨rfl, rfl⟩ := h1
   exact ⟨rfl, fun m' => rfl⟩
 all_goals
  simp only [aF, Bool.cond_eq_ite] at h ⊢
  first
   | exact e1 h
   | (simp only [bj, R1.val.injEq] at h; obtain ⟨rfl, rfl⟩ := h; exact ⟨rfl, fun m' => rfl⟩)
   | (revert h; (repeat' split) <;> intro h <;> first
     | (cases h; done)
     | exact e1 h
     | (simp only [bj, R1.val.injEq] at h; obtain ⟨rfl, rfl⟩ := h; exact ⟨rfl, fun m' => rfl⟩)
     | (simp_all; done))
end
end
section
theorem K2 {a b : Option Nat} (h : yO a b = true) : a = b := by
 cases a <;> cases b <;> simp [yO] at h
 ·rfl
 ·exact congrArg some h
mutual
theorem Ct : ∀ {a b : EV}, EV.same a b = true -> a = b
 | a, b, h => by
  cases a <;> cases b <;> simp only [EV.same, rp] at h
  case undef.undef => rfl
  case bN.bN => rfl
  case ae.ae => rfl
  case bF.bF => rfl
  case aO.aO => rfl
  case aJ.aJ => rfl
  case bool.bool x y => rw [beq_iff_eq.1 h]
  case int.int k x l y =>
   cases hk : (b6 k).beq (b6 l) <;> simp only [hk, cond_true, cond_false, rp] at h
   rw [jY hk, xL] at *
   rw [of_decide_eq_true h]
  case str.str x y =>
   rw [fH] at h;rw [of_decide_eq_true h]
  case ptr.ptr x i y j =>
   cases hk : x.beq y <;> simp only [hk, cond_true, cond_false, rp] at h
   rw [aV hk, aV h]
  case slice.slice x i k c y j l d =>
   cases h1 : x.beq y <;> simp only [h1, cond_true, cond_false, rp] at h
   cases h2 : i.beq j <;> simp only [h2, cond_true, cond_false, rp] at h
   cases h3 : k.beq l <;> simp only [h3, cond_true, cond_false, rp] at h
   rw [aV h1, aV h2, aV h3, K2 h]
  case map.map x y => rw [aV h]
  case func.func f x y g z u =>
   cases h1 : f.beq g <;> simp only [h1, cond_true, cond_false, rp] at h
   cases h2 : EV.mz x z <;> simp only [h2, cond_true, cond_false, rp] at h
   rw [aV h1, rD h2, rD h]
  case iface.iface t v u z =>
   cases h1 : t.beq u <;> simp only [h1, cond_true, cond_false, rp] at h
   rw [aV h1, Ct h]
  case agg.agg x y => rw [rD h]
  case tuple.tuple x y => rw [rD h]
  case fz.fz t e x u f y =>
   cases h0 : t.beq 0 <;> simp only [h0, cond_true, cond_false, rp] at h
   cases h1 : t.beq u <;> simp only [h1, cond_true, cond_false, rp] at h
   cases h2 : e.beq f <;> simp only [h2, cond_true, cond_false, rp] at h
   rw [aV h1, aV h2, Gm h]
theorem rD : ∀ {a b : List EV}, EV.mz a b = true -> a = b
 | [], [], _ => rfl
 | [], _ :: _, h => by simp [EV.mz] at h
 | _ :: _, [], h => by simp [EV.mz] at h
 | x :: a, y :: b, h => by
  simp only [EV.mz] at h
  cases h1 : EV.same x y <;> simp only [h1, cond_true, cond_false, rp] at h
  rw [Ct h1, rD h]
theorem Gm : ∀ {a b : List (List EV)}, EV.re a b = true -> a = b
 | [], [], _ => rfl
 | [], _ :: _, h => by simp [EV.re] at h
 | _ :: _, [], h => by simp [EV.re] at h
 | x :: a, y :: b, h => by
  simp only [EV.re] at h
  cases h1 : EV.mz x y <;> simp only [h1, cond_true, cond_false, rp] at h
  rw [rD h1, Gm h]
end
theorem Gh {m : Mem} {agg : Option Nat} {a v : EV} (h : m.eL agg a v = true) : m.load agg a = some v := by
 unfold Mem.eL at h
 cases hl : m.load agg a with
 | none => simp [hl] at h
 | some x => simp only [hl] at h; rw [Ct h]
theorem Q1 {m m' : Mem} {agg : Option Nat} {b off : Nat} (h : m.get b = m'.get b) : m.load agg (.ptr b off) = m'.load agg (.ptr b off) := by
 simp only [Mem.load, h]
theorem R.congr {base : Nat} {ρ : eF} {m m' : Mem} {w : World} (h : R base ρ m w) (hn : m'.next = m.next) (hg : ∀ b, m'.get b = m.get b) : R base ρ m' w :=
 ⟨fun b L hb => by rw [hn]; exact h.lt b L hb, fun b L hb => by rw [hg]; exact h.dj b L hb, fun b c L L' h1 h2 h3 h4 => h.inj b c L L' h1 h2 (by unfold Live at *; rwa [hg] at h3) (by unfold Live at *; rwa [hg] at h4), h.base,
  fun b hb => by rw [hg]; exact h.clean b (by rw [<- hn]; exact hb)⟩
theorem Step.congr {ρ ρ' : eF} {m m1 fW : Mem} {w w' : World} (h : Step ρ m w ρ' m1 w') (hn : fW.next = m1.next) (hg : ∀ b, fW.get b = m1.get b) : Step ρ m w ρ' fW w' :=
 ⟨h.ext, h.new, by rw [hn]; exact h.next, fun b hb hr => by rw [hg]; exact h.same b hb hr, fun b hb hd => by rw [hg]; exact h.dead b hb hd, h.size,
  fun i hi ⟨b, L, h1, h2, h3, h4⟩ => h.K5 i hi ⟨b, L, h1, by unfold Live at *; rwa [hg] at h2, h3, h4⟩, h.kept, h.os, h.tape, h.output⟩
theorem R.weaken {base : Nat} {ρ : eF} {m m' : Mem} {w : World} (h : R base ρ m w) (hn : ∀ b L, ρ b = some L -> b < m'.next) (hg : ∀ b L, ρ b = some L -> m'.get b = m.get b \/ m'.get b = .dead) (hc : ∀ b, m'.next <= b -> m'.get b = .dead) : R base ρ m' w := by
 have lv : ∀ b L, ρ b = some L -> Live m' b -> Live m b := fun b L hb hl => by
  rcases hg b L hb with e | e
  ·unfold Live at *; rwa [e] at hl
  ·exact absurd e hl
 refine ⟨hn, fun b L hb => ?_, fun b c L L' h1 h2 h3 h4 => h.inj b c L L' h1 h2 (lv b L h1 h3) (lv c L' h2 h4), h.base, hc⟩
 rcases hg b L hb with e | e
 ·rw [e]; exact h.dj b L hb
 ·rw [e]; trivial
theorem side {base : Nat} {ρ : eF} {B : fM} {L : Loc} {w : World} (h : Bi base ρ B L w) (hl : B ≠ .dead) : (L.ro = false -> base <= L.dj) /\ (L.ro = true -> L.dj < base) := by
 cases B with
 | dead => exact absurd rfl hl
 | cells cs esz el ro =>
  obtain ⟨_, _, _, _, _, _, h4, _, _, h7, h8⟩ := h
  exact ⟨fun e => (h7 (by rw [<- h4]; exact e)).1, fun e => h8 (by rw [<- h4]; exact e)⟩
 | map es =>
  obtain ⟨_, _, _, _, _, h4, h5⟩ := h
  exact ⟨fun _ => h4, fun e => by rw [h5] at e; cases e⟩
theorem over (m : Mem) (f : Nat -> fM) : ∀ l : List Nat, ∃ m' : Mem, m'.next = m.next /\ ∀ b, m'.get b = if b ∈ l then f b else m.get b
 | [] => ⟨m, rfl, fun b => by simp⟩
 | x :: l => by
  obtain ⟨m', h1, h2⟩ := over m f l
  refine ⟨m'.set x (f x), h1, fun b => ?_⟩
  rw [Mem.bY, h2 b];by_cases e : b = x
  ·subst e; simp
  ·simp [e]
theorem Se {base : Nat} {ρ0 ρ ρ' : eF} {m0 Mm mi me M2 : Mem} {w0 w w' : World} (l : List Nat) (hR : R base ρ Mm w) (ev : Step ρ0 m0 w0 ρ Mm w) (WK : R base ρ' me w') (hs : Step ρ mi w ρ' me w')
  (hl : ∀ b, b ∈ l -> m0.next <= b /\ b < mi.next /\ mi.get b = .dead) (YX : ∀ b L, ρ b = some L -> b ∉ l -> mi.get b = Mm.get b \/ mi.get b = .dead) (XK : ∀ b, b < m0.next -> mi.get b = Mm.get b) (FC : m0.next <= mi.next)
  (h2n : M2.next = me.next) (h2g : ∀ b, M2.get b = if b ∈ l then Mm.get b else me.get b) : R base ρ' M2 w' /\ Step ρ0 m0 w0 ρ' M2 w' := by
 have old : ∀ b L, b ∈ l -> ρ' b = some L -> ρ b = some L := by
  intro b L hb hL
  cases e : ρ b with
  | some L' => rw [hs.ext b L' e] at hL; exact hL
  | none => have := hs.new b e (by rw [hL]; simp); have := (hl b hb).2.1; omega
 have ER : ∀ b, b ∈ l -> M2.get b = Mm.get b := fun b hb => by rw [h2g, if_pos hb]
 have EP : ∀ b, b ∉ l -> M2.get b = me.get b := fun b hb => by rw [h2g, if_neg hb]
 -- a block Oo waits is not in the YB reach
 have apart : ∀ b L, b ∈ l -> ρ b = some L -> Live Mm b -> L.ro = false -> L.dj < w.heap.size /\ ¬ K5 ρ mi L.dj := by
  intro b L hb hL xu rj
  refine ⟨(hR.dj b L hL).lt xu, ?_⟩
  rintro ⟨c, Mc, hc, LU, Vs, xx⟩
  have oY : c ∉ l := fun h => LU (hl c h).2.2
  have VF : Live Mm c := by
   rcases YX c Mc hc oY with e | e
   ·unfold Live at *; rwa [e] at LU
   ·exact absurd e LU
  have := hR.inj c b Mc L hc hL VF xu Vs xx
  exact oY (this ▸ hb)
 have mix : ∀ b c L L', b ∈ l -> c ∉ l -> ρ' b = some L -> ρ' c = some L' -> Live M2 b -> Live M2 c -> L.dj = L'.dj -> (L.ro = false \/ L'.ro = false) -> False := by
  intro b c L L' hb hc h1 h2 h3 h4 xx rj
  have FY := old b L hb h1
  have V1 : Live Mm b := by unfold Live at *; rwa [ER b hb] at h3
  have h4' : Live me c := by unfold Live at *; rwa [EP c hc] at h4
  have s1 := side (hR.dj b L FY) V1
  have s2 := side (WK.dj c L' h2) h4'
  have both : L.ro = false /\ L'.ro = false := by
   cases e1 : L.ro <;> cases e2 : L'.ro
   ·exact ⟨rfl, rfl⟩
   ·have a1 := s1.1 e1; have a2 := s2.2 e2; omega
   ·have a1 := s1.2 e1; have a2 := s2.1 e2; omega
   ·rcases rj with h | h
    ·rw [e1] at h; cases h
    ·rw [e2] at h; cases h
  obtain ⟨a1, a2⟩ := apart b L hb FY V1 both.1
  exact a2 (hs.K5 L.dj a1 ⟨c, L', h2, h4', both.2, xx.symm⟩)
 refine ⟨⟨fun b L hb => by rw [h2n]; exact WK.lt b L hb, ?_, ?_, WK.base, ?_⟩, ⟨ev.ext.trans hs.ext, ?_, ?_, ?_, ?_, pU ev.size hs.size, ?_, ?_, hs.os.trans ev.os, hs.tape.trans ev.tape, hs.output.trans ev.output⟩⟩
 ·intro b L hb
  by_cases IQ : b ∈ l
  ·rw [ER b IQ]
   have hL := old b L IQ hb
   by_cases hd : Mm.get b = .dead
   ·rw [hd]; trivial
   ·have hB := hR.dj b L hL
    refine hB.of_heap hs.ext ?_
    cases rj : L.ro with
    | false => obtain ⟨a1, a2⟩ := apart b L IQ hL hd rj; exact hs.kept L.dj a1 a2
    | true =>
     refine hs.kept L.dj (hB.lt hd) ?_
     rintro ⟨c, Mc, hc, LU, Vs, xx⟩
     have oY : c ∉ l := fun h => LU (hl c h).2.2
     have VF : Live Mm c := by
      rcases YX c Mc hc oY with e | e
      ·unfold Live at *; rwa [e] at LU
      ·exact absurd e LU
     have s1 := (side hB hd).2 rj
     have s2 := (side (hR.dj c Mc hc) VF).1 Vs
     omega
  ·rw [EP b IQ]; exact WK.dj b L hb
 ·intro b c L L' h1 h2 h3 h4 rj xx
  by_cases hb : b ∈ l <;> by_cases hc : c ∈ l
  ·exact hR.inj b c L L' (old b L hb h1) (old c L' hc h2) (by unfold Live at *; rwa [ER b hb] at h3) (by unfold Live at *; rwa [ER c hc] at h4) rj xx
  ·exact (mix b c L L' hb hc h1 h2 h3 h4 xx (.inl rj)).elim
  ·exact (mix c b L' L hc hb h2 h1 h4 h3 xx.symm (.inr rj)).elim
  ·exact WK.inj b c L L' h1 h2 (by unfold Live at *; rwa [EP b hb] at h3) (by unfold Live at *; rwa [EP c hc] at h4) rj xx
 ·intro b hb
  rw [h2n] at hb;have IQ : b ∉ l := fun h => by have := (hl b h).2.1; have := hs.next; omega
  rw [EP b IQ]; exact WK.clean b hb
 ·intro b h0 h1
  cases e : ρ b with
  | some L => exact ev.new b h0 (by rw [e]; simp)
  | none => exact pU FC (hs.new b e h1)
 ·rw [h2n]; exact pU FC hs.next
 ·intro b hb h0
  have IQ : b ∉ l := fun h => by have := (hl b h).1; omega
  have hρ : ρ b = none := by
   cases e : ρ b with
   | none => rfl
   | some L => have := ev.new b h0 (by rw [e]; simp); omega
  rw [EP b IQ, hs.same b (mr hb FC) hρ, XK b hb, ev.same b hb h0]
 ·intro b hb hd
  have IQ : b ∉ l := fun h => by have := (hl b h).1; omega
  rw [EP b IQ];exact hs.dead b (mr hb FC) (by rw [XK b hb]; exact ev.dead b hb hd)
 ·rintro i hi ⟨b, L, h1, h2, h3, h4⟩
  by_cases hb : b ∈ l
  ·exact ev.K5 i hi ⟨b, L, old b L hb h1, by unfold Live at *; rwa [ER b hb] at h2, h3, h4⟩
  ·obtain ⟨c, Lc, c1, c2, c3, c4⟩ := hs.K5 i (mr hi ev.size) ⟨b, L, h1, by unfold Live at *; rwa [EP b hb] at h2, h3, h4⟩
   have oY : c ∉ l := fun h => c2 (hl c h).2.2
   refine ev.K5 i hi ⟨c, Lc, c1, ?_, c3, c4⟩
   rcases YX c Lc c1 oY with e | e
   ·unfold Live at *; rwa [e] at c2
   ·exact absurd e c2
 ·intro i hi hr
  rw [hs.kept i (mr hi ev.size), ev.kept i hi hr]
  rintro ⟨c, Lc, c1, c2, c3, c4⟩
  have oY : c ∉ l := fun h => c2 (hl c h).2.2
  refine hr (ev.K5 i hi ⟨c, Lc, c1, ?_, c3, c4⟩)
  rcases YX c Lc c1 oY with e | e
  ·unfold Live at *; rwa [e] at c2
  ·exact absurd e c2
theorem OX {base : Nat} {ρ0 ρ ρ' : eF} {m0 Mm : Mem} {w0 w w' : World} {k : Nat} {B : fM} (hR : R base ρ Mm w) (ev : Step ρ0 m0 w0 ρ Mm w) (JP : m0.next <= k) (hk : k < Mm.next) (hm : Made base ρ ⟨k, Mm.gM⟩ w ρ' B w') :
  R base ρ' ⟨Mm.next, Mm.gM.set k B⟩ w' /\ Step ρ0 m0 w0 ρ' ⟨Mm.next, Mm.gM.set k B⟩ w' := by
 have hg : ∀ b, (⟨Mm.next, Mm.gM.set k B⟩ : Mem).get b = if b = k then B else Mm.get b := fun b => by
  unfold Mem.get; simp only [Tr.bY]; split <;> rfl
 have xw : ∀ b, ((⟨k, Mm.gM⟩ : Mem).new B).get b = if b = k then B else Mm.get b := fun b => by rw [Mem.fw]; rfl
 have VN : ∀ b, b ≠ k -> ρ' b = ρ b := fun b hb => hm.Yp b hb
 refine ⟨⟨?_, ?_, ?_, hm.base, ?_⟩, ⟨ev.ext.trans hm.ext, ?_, ev.next, ?_, ?_, by have := ev.size; have := hm.size; omega, ?_, ?_, hm.os.trans ev.os, hm.tape.trans ev.tape, hm.output.trans ev.output⟩⟩
 ·intro b L hb
  by_cases e : b = k
  ·rw [e]; exact hk
  ·rw [VN b e] at hb; exact hR.lt b L hb
 ·intro b L hb
  rw [hg, <- xw]; exact hm.dj b L hb
 ·intro b c L L' h1 h2 h3 h4
  exact hm.inj b c L L' h1 h2 (by unfold Live at *; rw [xw] ; rwa [hg] at h3) (by unfold Live at *; rw [xw]; rwa [hg] at h4)
 ·intro b hb
  have hb : Mm.next <= b := hb
  rw [hg, if_neg (by omega)]; exact hR.clean b hb
 ·intro b h0 h1
  by_cases e : b = k
  ·rw [e]; exact JP
  ·rw [VN b e] at h1; exact ev.new b h0 h1
 ·intro b hb h0
  rw [hg, if_neg (by omega)]; exact ev.same b hb h0
 ·intro b hb hd
  rw [hg, if_neg (by omega)]; exact ev.dead b hb hd
 ·rintro i hi ⟨b, L, h1, h2, h3, h4⟩
  by_cases e : b = k
  ·subst e
   obtain ⟨L0, q1, q2⟩ := hm.loc
   have : ρ' b = some L0 := q1
   rw [this] at h1; cases h1
   have := ev.size
   omega
  ·rw [VN b e] at h1
   exact ev.K5 i hi ⟨b, L, h1, by unfold Live at *; rwa [hg, if_neg e] at h2, h3, h4⟩
 ·intro i hi hr
  rw [hm.old i (mr hi ev.size), ev.kept i hi hr]
end
end Go.Proofs.YtdiccmapankckaaDoor.Ev
