/- EvOpF, EvOpG, EvOp, EvOps, EvDraw, EvSched, EvMake, EvDraws. -/
import Derived.Test.YtdiccmapankckaaDoorMa
set_option linter.unusedSimpArgs false
set_option linter.unusedVariables false
set_option linter.unusedSectionVars false
set_option linter.defProp false
set_option maxRecDepth 20000
set_option maxHeartbeats 8000000
namespace Go.Proofs.YtdiccmapankckaaDoor.Ev
open Go
section
section
variable {base : Nat} {ρ : ev} {m : Mem} {w : World} {P : Program}
theorem GH (FI : Nat) : ∀ r c, c < FI -> Builtin.growBy FI r c <= 2 * FI + 768
 | 0, c, h => by simp [Builtin.growBy]; omega
 | r + 1, c, h => by
  simp only [Builtin.growBy];rw [if_neg (by omega)];by_cases h2 : c + (c + 768) / 4 < FI
  ·exact GH FI r _ h2
  ·cases r with
   | zero => simp [Builtin.growBy]; omega
   | succ r => simp only [Builtin.growBy]; rw [if_pos (by omega)]; omega
theorem Ll {FI old : Nat} (h : old < FI) : Builtin.nextslicecap FI old <= 2 * FI + 768 := by
 unfold Builtin.nextslicecap
 split
 ·omega
 ·split
  ·omega
  ·exact GH FI 4 old h
theorem iX (hR : R base ρ m w) {x : EV} {x' : Value} (hx : VR ρ x x') (size : Nat) {n : Nat} {xs : List EV} (h : m.source size x = some (n, xs)) :
  (Builtin.lenOf x').run P w = .ok n w /\ xs.length = n * size /\ ∀ k, k <= n -> ∃ vs : List Value, (Builtin.firstCells size k x').run P w = .ok ⟨vs⟩ w /\ fx ρ (xs.take (k * size)) vs /\ (∀ c ∈ vs, c.oneCell' = true) := by
 cases x <;> simp only [Mem.source, reduceCtorEq, bf, eO] at h
 case fz => cases hx
 case ae =>
  obtain ⟨rfl, rfl⟩ := h
  cases hx
  refine ⟨rfl, by simp, fun k hk => ⟨[], ?_, by simpa using fx.nil, by simp⟩⟩
  rfl
 case str s =>
  cases uh : size.beq 1 <;> simp only [uh, cond_true, cond_false, reduceCtorEq, bf, eO] at h
  obtain ⟨rfl, rfl⟩ := h
  obtain rfl := aS uh
  cases hx with
  | str s' =>
  refine ⟨rfl, by simp, fun k hk => ⟨(s'.data.toList.take k).map fun b => .int .u8 (b.toNat : Int), ?_, ?_, ?_⟩⟩
  ·simp only [Builtin.firstCells, Sem.run_pure]
   congr 1
   apply Array.ext'
   simp
  ·rw [Nat.mul_one, <- List.map_take]
   exact fx.HG _ _ (R := fun a b => a = b) (fun a b e => by subst e; exact .int _ _) rfl fun i a b h1 h2 => by rw [h1] at h2; cases h2; rfl
  ·intro c hc
   obtain ⟨b, _, rfl⟩ := List.mem_map.1 hc
   rfl
 case slice b off len cap =>
  obtain ⟨cs, mg, h2⟩ := j8.1 h
  cases h2
  refine ⟨by cases hx <;> rfl, uM mg, fun k hk => ?_⟩
  have oP : k * size <= n * size := Nat.mul_le_mul_right _ hk
  have FN : m.row b off (k * size) = some (xs.take (k * size)) := by
   by_cases JM : k * size = 0
   ·rw [JM, Mem.nj]; simp
   rw [Mem.p7 JM];rw [Mem.p7 (by omega)] at mg;unfold Mem.Ho at mg ⊢
   split at mg
   ·rename_i ds _ _ _ hg
    cases hl : (off + n * size).ble ds.length <;> simp only [hl, cond_true, cond_false, reduceCtorEq, bf] at mg
    have := qS hl
    have h3 : (off + k * size).ble ds.length = true := Be (by omega)
    simp only [h3, cond_true];subst mg;rw [List.take_take, Nat.min_eq_left oP]
   ·cases mg
  obtain ⟨a, c, vs, rfl, h3, h4, h5, h6⟩ := nh (P := P) hR hx size hk FN
  exact ⟨vs, by simpa [Builtin.firstCells] using h3, h4, h5⟩
theorem kill (hR : R base ρ m w) {b : Nat} {L : Loc} (hb : ρ b = some L) : R base ρ (m.set b .dead) w /\ Step ρ m w ρ (m.set b .dead) w := by
 have hl : ∀ c, Live (m.set b .dead) c -> c ≠ b /\ Live m c := by
  intro c hc
  unfold Live at hc ⊢
  rw [Mem.bW] at hc;by_cases e : c = b
  ·rw [if_pos e] at hc; exact absurd rfl hc
  ·rw [if_neg e] at hc; exact ⟨e, hc⟩
 refine ⟨⟨hR.lt, fun c M hM => ?_, fun c d M M' hM HY h1 h2 h3 h4 => hR.inj c d M M' hM HY (hl c h1).2 (hl d h2).2 h3 h4, hR.base, fun c hc => by rw [Mem.bW]; split <;> first | rfl | exact hR.clean c hc⟩, ⟨.refl ρ, fun _ h h' => absurd h h', fy _, fun c hc hn => ?_, fun c _ hd => by rw [Mem.bW]; split <;> first | rfl | exact hd, fy _, fun i hi => ?_, fun _ _ _ => rfl, rfl, rfl, rfl⟩⟩
 ·rw [Mem.bW]
  by_cases e : c = b
  ·rw [if_pos e]; trivial
  ·rw [if_neg e]; exact hR.de c M hM
 ·rw [Mem.bW, if_neg (fun e => by subst e; rw [hb] at hn; cases hn)]
 ·rintro ⟨c, M, hM, h1, h2, h3⟩
  exact ⟨c, M, hM, (hl c h1).2, h2, h3⟩
theorem Kw (hR : R base ρ m w) {b : Nat} {L : Loc} (hb : ρ b = some L) {cs0 : List EV} {el0 : Nat} (hm : m.get b = .cells cs0 L.esz el0 false) {o len n c : Nat} {old xs : List EV} {FB : List Value} (elem : Nat)
  (hold : ∀ (i : Nat) (v : EV), old[i]? = some v -> cs0[o - L.off + i]? = some v /\ L.off <= o) (WR : old.length = len * L.esz) (Td : xs.length = n * L.esz) (JQ : len + n <= c) (hr : o + c * L.esz <= L.total)
  (hx : fx ρ xs FB) (hf : ∀ c ∈ FB, c.oneCell' = true) :
  ∃ (w' : World) (L' : Loc), (storeCells ⟨L.de, o + len * L.esz, none⟩ FB).run P w = .ok () w' /\ L'.de = L.de /\ L'.off = o /\ L'.total = L.total /\ L'.esz = L.esz /\ L'.ro = false /\
   R base (ρ.put m.next L') ((m.new (.cells (old ++ xs) L.esz elem false)).set b .dead) w' /\ Step ρ m w (ρ.put m.next L') ((m.new (.cells (old ++ xs) L.esz elem false)).set b .dead) w' := by
 have hB := hR.de b L hb
 rw [hm] at hB;obtain ⟨arr, e, fz, h1, h2, h3, h4, h5, h6, h7, h8⟩ := hB
 obtain ⟨JR, uj⟩ := h7 rfl
 have afw := hx.length
 have Zi : len * L.esz + n * L.esz <= c * L.esz := by rw [<- Nat.add_mul]; exact Nat.mul_le_mul_right _ JQ
 obtain ⟨w', Iv, r1, r2, r3, r4, r5, r6, r7, r8, r9⟩ := oX (P := P) (o := o + len * L.esz) FB 0 w arr h1 (by omega) uj hf
 let L' : Loc := ⟨L.de, o, L.total, L.esz, false⟩
 have Yh : L'.off = o := rfl
 have hn := hR.Ud
 have he := ev.H4 L' hn
 have xO : Live m b := by unfold Live; rw [hm]; simp
 have FU : b ≠ m.next := by have := hR.lt b L hb; omega
 let m' := (m.new (.cells (old ++ xs) L.esz elem false)).set b .dead
 have fq : m'.get m.next = .cells (old ++ xs) L.esz elem false := by
  show Mem.get (Mem.set _ _ _) _ = _
  rw [Mem.bW, if_neg (Ne.symm FU), Mem.fq, if_pos rfl]
 have RH : m'.get b = .dead := by
  show Mem.get (Mem.set _ _ _) _ = _
  rw [Mem.bW, if_pos rfl]
 have iv : ∀ d, d ≠ m.next -> d ≠ b -> m'.get d = m.get d := fun d hd FT => by
  show Mem.get (Mem.set _ _ _) _ = _
  rw [Mem.bW, if_neg FT, Mem.fq, if_neg hd]
 have uW : ∀ d, d ≠ m.next -> Live m' d -> d ≠ b /\ Live m d := by
  intro d hd hl
  have hdb : d ≠ b := fun e => by subst e; exact hl RH
  exact ⟨hdb, by unfold Live at hl ⊢; rwa [iv d hd hdb] at hl⟩
 refine ⟨w', L', r1, rfl, rfl, rfl, rfl, rfl, ⟨?_, ?_, ?_, ?_, fun d hd => by have hd : m.next + 1 <= d := hd; have := hR.lt b L hb; rw [iv d (by omega) (by omega)]; exact hR.clean d (by omega)⟩, ⟨he, ?_, ?_, ?_, fun d hd X7 => (Classical.em (d = b)).elim (fun e => by rw [e]; exact RH) (fun e => by have hdn : d ≠ m.next := Nat.ne_of_lt hd; exact (iv d hdn e).trans X7), by omega, ?_, ?_, r7, r8, r9⟩⟩
 ·intro d M hM
  show d < m.next + 1
  unfold ev.put at hM;by_cases e : d = m.next
  ·omega
  ·rw [if_neg e] at hM; have := hR.lt d M hM; omega
 ·intro d M hM
  unfold ev.put at hM;by_cases e : d = m.next
  ·rw [if_pos e] at hM; cases hM
   subst e
   show Bd base _ (m'.get m.next) _ _
   rw [fq];refine ⟨Iv, _, fz, r2, r3.trans h2, rfl, rfl, by rw [Yh, jz]; show _ <= L.total; omega, ?_, fun _ => ⟨JR, by rw [r3]; exact uj⟩, by simp⟩
   intro i v hi
   rw [r4];by_cases bn : i < old.length
   ·rw [BC bn] at hi
    obtain ⟨g0, g1⟩ := hold i v hi
    obtain ⟨v', k1, k2, k3⟩ := h6 _ v g0
    rw [if_neg (by rw [Yh]; omega)]
    refine ⟨v', ?_, k2.ext he, k3⟩
    rw [show L'.off + i = L.off + (o - L.off + i) by rw [Yh]; omega]
    exact k1
   ·rw [FA (by omega)] at hi
    obtain ⟨v', k1, k2⟩ := hx.get _ v hi
    have mF : i - old.length < FB.length := (uz.1 k1).1
    rw [if_pos (by rw [Yh]; omega)]
    refine ⟨v', ?_, k2.ext he, hf v' (List.mem_of_getElem? k1)⟩
    rw [<- k1]; congr 1; rw [Yh]; omega
  ·rw [if_neg e] at hM
   show Bd base _ (m'.get d) _ _
   by_cases hd : d = b
   ·subst hd; rw [RH]; trivial
   ·rw [iv d e hd]
    by_cases hl : m.get d = .dead
    ·rw [hl]; trivial
    ·have iM : M.de ≠ L.de := fun xl => hd (hR.inj b d L M hb hM xO hl (by rw [h4]) xl.symm).symm
     exact (hR.de d M hM).of_heap he (r5 _ iM)
 ·intro d f M M' hM HY hl zl qY xl
  unfold ev.put at hM HY
  by_cases e : d = m.next <;> by_cases e' : f = m.next
  ·rw [e, e']
  ·rw [if_pos e] at hM; cases hM
   rw [if_neg e'] at HY
   obtain ⟨q1, q2⟩ := uW f e' zl
   exact absurd (hR.inj b f L M' hb HY xO q2 (by rw [h4]) xl).symm q1
  ·rw [if_pos e'] at HY; cases HY
   rw [if_neg e] at hM;obtain ⟨q1, q2⟩ := uW d e hl
   exact absurd (hR.inj d b M L hM hb q2 xO qY xl) q1
  ·rw [if_neg e] at hM; rw [if_neg e'] at HY
   exact hR.inj d f M M' hM HY (uW d e hl).2 (uW f e' zl).2 qY xl
 ·rw [r6]; exact hR.base
 ·intro d hd1 UD
  unfold ev.put at UD;by_cases e : d = m.next
  ·omega
  ·rw [if_neg e] at UD; exact absurd hd1 UD
 ·show m.next <= m.next + 1; omega
 ·intro d hd Uu
  exact iv d (by omega) (fun e => by subst e; rw [hb] at Uu; cases Uu)
 ·rintro i hi ⟨d, M, hM, hl, qY, xl⟩
  unfold ev.put at hM;by_cases e : d = m.next
  ·rw [if_pos e] at hM; cases hM
   exact ⟨b, L, hb, xO, by rw [h4], xl⟩
  ·rw [if_neg e] at hM
   exact ⟨d, M, hM, (uW d e hl).2, qY, xl⟩
 ·intro i hi hr
  exact r5 i (fun e => hr ⟨b, L, hb, xO, by rw [h4], e.symm⟩)
theorem DN (z : Array Value) (n : Nat) : (Builtin.zeroCells z n).size = n * z.size := by simp [Builtin.zeroCells]
theorem RE {t u e : TypeId} {du : TypeDesc} {i : TypeInfo} (ht : P.underlying t = some (.slice e)) (hu : P.underlying u = some du) (GF : (∃ v, du = .slice v) \/ du = .string) (hi : P.info? e = some i) {zv : Value} (hz : ∀ w, (zeroValue e).run P w = .ok zv w)
  (HS : zv.cells.size = i.size) (hb : i.bytes <= 65536) {a : Option Addr} {len cap n : Nat} {x' : Value} {old xs : List Value} (hn : (Builtin.lenOf x').run P w = .ok n w) (Rv : cap < len + n) (zj : len + n <= room)
  (hold : (Builtin.firstCells i.size len (.slice a len cap)).run P { w with drawn := w.drawn + 1 } = .ok ⟨old⟩ { w with drawn := w.drawn + 1 }) (VF : (Builtin.firstCells i.size n x').run P { w with drawn := w.drawn + 1 } = .ok ⟨xs⟩ { w with drawn := w.drawn + 1 }) :
  ∃ (w' : World) (c : Nat) (extra : List Value), (Builtin.append_ #[t, u] t #[.slice a len cap, x']).run P w = .ok (.slice (some ⟨w.heap.size, 0, none⟩) (len + n) c) w' /\ len + n <= c /\ extra.length = (c - (len + n)) * i.size /\
   IE w (.cells ⟨(old ++ xs) ++ extra⟩ e (0, 0)) w' := by
 have hs : gh P e = some i.size := by simp [gh, hi]
 let q : Question := .appendCap (len + n) cap e
 let c := q.cut (w.tape w.drawn q)
 have hc : len + n <= c := Nat.le_add_right _ _
 refine ⟨{ w with drawn := w.drawn + 1, heap := w.heap.push (.cells (⟨old⟩ ++ ⟨xs⟩ ++ Builtin.zeroCells zv.cells (c - (len + n))) e) }, c, (Builtin.zeroCells zv.cells (c - (len + n))).toList, ?_, hc, by simp [DN, HS], ⟨by simp [<- Array.toList_inj], rfl, rfl, rfl⟩⟩
 have hnc := Ll Rv
 unfold room at zj;have ab0 : ¬ Builtin.nextslicecap (len + n) cap * i.bytes > 2 ^ 48 := by
  have h1 : Builtin.nextslicecap (len + n) cap * i.bytes <= (2 * 1073741824 + 768) * 65536 := Nat.mul_le_mul (by omega) hb
  omega
 rcases GF with ⟨v, rfl⟩ | rfl
 all_goals
  unfold Builtin.append_;simp only [List.getElem?_toArray, List.getElem?_cons_zero, List.getElem?_cons_succ, Sem.run_bind, run_underlying ht, Result.andThen_ok, b8 hs, run_underlying hu, Sem.run_pure, re, if_false, Bool.not_false, if_true, hn];rw [if_neg (by omega)];simp only [Sem.run_bind, run_typeInfo hi, Result.andThen_ok];rw [if_neg (by simp only [IntKind.max_i64]; omega)]
  simp only [Sem.run_bind, run_typeInfo hi, Result.andThen_ok];rw [if_neg ab0];simp only [Sem.run_bind, run_choose];rw [show (Question.appendCap (len + n) cap e).forced = false from rfl];simp only [re, if_false, Result.andThen_ok, run_askRoom, run_typeInfo hi];rw [hold];simp only [Result.andThen_ok];rw [VF];simp only [Result.andThen_ok, hz, Sem.run_pure, newRow, Sem.run_bind, run_newObj]
  rfl
theorem rT {t u e : TypeId} {du : TypeDesc} {size : Nat} (ht : P.underlying t = some (.slice e)) (hu : P.underlying u = some du) (GF : (∃ v, du = .slice v) \/ du = .string) (hs : gh P e = some size)
  {a : Option Addr} {len cap n : Nat} {x' : Value} {xs : List Value} (hn : (Builtin.lenOf x').run P w = .ok n w) (JO : len + n <= cap) (VF : (Builtin.firstCells size n x').run P w = .ok ⟨xs⟩ w) :
  (Builtin.append_ #[t, u] t #[.slice a len cap, x']).run P w = (match a with | some b => (storeCells (b.add (len * size)) xs).run P w | none => .ok () w : Result Unit).andThen fun _ w' => .ok (.slice a (len + n) cap) w' := by
 rcases GF with ⟨v, rfl⟩ | rfl
 all_goals
  unfold Builtin.append_;simp only [List.getElem?_toArray, List.getElem?_cons_zero, List.getElem?_cons_succ, Sem.run_bind, run_underlying ht, Result.andThen_ok, b8 hs, run_underlying hu, Sem.run_pure, re, if_false, Bool.not_false, if_true, hn];rw [if_pos JO];simp only [Sem.run_bind, VF, Result.andThen_ok]
  cases a <;> simp
theorem qa (w : World) : Fi w { w with drawn := w.drawn + 1 } := ⟨rfl, rfl, rfl, rfl⟩
theorem FH {x : EV} {n : Nat} {xs : List EV} {esz : Nat} {x' : Value} (hx : VR ρ x x') (h : m.source esz x = some (n, xs)) : xs.length = n * esz := by
 cases x <;> simp only [Mem.source, reduceCtorEq, bf, eO] at h
 case fz => cases hx
 case ae => obtain ⟨rfl, rfl⟩ := h; simp
 case str s =>
  cases uh : esz.beq 1 <;> simp only [uh, cond_true, cond_false, reduceCtorEq, bf, eO] at h
  obtain ⟨rfl, rfl⟩ := h
  obtain rfl := aS uh
  simp
 case slice b off len cap =>
  obtain ⟨cs, mg, h2⟩ := j8.1 h
  cases h2
  exact uM mg
theorem tq (hR : R base ρ m w) {t u e : TypeId} {du : TypeDesc} {i : TypeInfo} {z : List EV} (ht : P.underlying t = some (.slice e)) (hu : P.underlying u = some du) (GF : (∃ v, du = .slice v) \/ du = .string) (hi : P.info? e = some i)
  (hz : nS P e = some z) (HS : z.length = i.size) (hb : i.bytes <= 65536) {a : Option Addr} {len cap n : Nat} {x : EV} {x' : Value} (hx : VR ρ x x') {xs : List EV} (jx : m.source i.size x = some (n, xs)) (Rv : cap < len + n) (zj : len + n <= room)
  {old : List EV} {old' : List Value} (hov : fx ρ old old') (WS : ∀ c ∈ old', c.oneCell' = true) (WR : old.length = len * i.size)
  (hold : (Builtin.firstCells i.size len (.slice a len cap)).run P { w with drawn := w.drawn + 1 } = .ok ⟨old'⟩ { w with drawn := w.drawn + 1 }) :
  Ai P (Builtin.append_ #[t, u] t #[.slice a len cap, x']) base ρ m w (.slice m.next 0 (len + n) none) (m.new (.cells (old ++ xs) i.size e false)) := by
 obtain ⟨zv, z1, z2, _⟩ := nf (ρ := ρ) hz
 have XE : zv.cells.size = i.size := by have := z2.length; simp at this; omega
 obtain ⟨s1, s2, _⟩ := iX (P := P) hR hx i.size jx
 obtain ⟨_, _, s3⟩ := iX (P := P) (hR.quiet (qa w)) hx i.size jx
 obtain ⟨vs, f1, f2, f3⟩ := s3 n (fy n)
 rw [PX (by omega)] at f2;obtain ⟨w', c, extra, g1, g2, g3, g4⟩ := RE (P := P) (w := w) ht hu GF hi z1 XE hb s1 Rv zj hold f1
 have V3 := hov.append f2
 obtain ⟨L, h1, h2, h3, h4, h5, h6, h7, h8⟩ := Hz hR V3 (fun c hc => by
  rcases yb.1 hc with hc | hc
  ·exact WS c hc
  ·exact f3 c hc) i.size e e extra (0, 0) (AW _) w' g4
 refine ⟨_, w', _, g1, ?_, h7, h8⟩
 rw [<- h2];refine .slice h1 g2 (fun _ => by rw [h3]) (fun _ => ?_)
 have hl1 := hov.length
 have Pe := f2.length
 rw [h5, h4, g3, jz, <- hl1, <- Pe, WR, s2, <- Nat.add_mul, <- Nat.add_mul];rw [show len + n + (c - (len + n)) = c by omega];simp
theorem Ix (hR : R base ρ m w) {t u e : TypeId} {du : TypeDesc} {i : TypeInfo} {z : List EV} (ht : P.underlying t = some (.slice e)) (hu : P.underlying u = some du) (GF : (∃ v, du = .slice v) \/ du = .string) (hi : P.info? e = some i)
  (hz : nS P e = some z) (HS : z.length = i.size) (hb : i.bytes <= 65536) {s x : EV} {s' x' : Value} (hs : VR ρ s s') (hx : VR ρ x x') {v : EV} {m' : Mem} (h : fS m e i.size s x = some (v, m')) :
  Ai P (Builtin.append_ #[t, u] t #[s', x']) base ρ m w v m' := by
 have uh : gh P e = some i.size := by simp [gh, hi]
 unfold fS at h
 cases jx : m.source i.size x with
 | none => simp [jx] at h
 | some nx =>
 obtain ⟨n, xs⟩ := nx
 simp only [jx] at h;have Td := FH hx jx
 obtain ⟨s1, s2, s3⟩ := iX (P := P) hR hx i.size jx
 obtain ⟨vs, f1, f2, f3⟩ := s3 n (fy n)
 rw [PX (by omega)] at f2
 cases hn : n.beq 0 with
 | true =>
  obtain rfl := aS hn
  simp only [hn, cond_true] at h;have yd : vs = [] := by
   have := f2.length
   rw [Td] at this;simp at this
   exact List.eq_nil_of_length_eq_zero this.symm
  subst yd
  cases hs <;> simp only [reduceCtorEq, bf, eO] at h
  case ae =>
   obtain ⟨rfl, rfl⟩ := h
   exact ⟨ρ, w, _, by rw [rT ht hu GF uh s1 (fy _) f1]; rfl, .ae, hR, .refl _ _ _⟩
  case slice b off len c o L hL hc ho hr =>
   obtain ⟨rfl, rfl⟩ := h
   exact ⟨ρ, w, _, by rw [rT ht hu GF uh s1 (by omega) f1]; rfl, .slice hL hc ho hr, hR, .refl _ _ _⟩
  case gN b off a =>
   obtain ⟨rfl, rfl⟩ := h
   exact ⟨ρ, w, _, by rw [rT ht hu GF uh s1 (by omega) f1]; rfl, .gN, hR, .refl _ _ _⟩
  case fG b off len c o L hL hc ho =>
   obtain ⟨rfl, rfl⟩ := h
   exact ⟨ρ, w, _, by rw [rT ht hu GF uh s1 (by omega) f1]; rfl, .fG hL hc ho, hR, .refl _ _ _⟩
 | false =>
  have uw := jZ hn
  simp only [hn, cond_false] at h
  cases hs <;> simp only [reduceCtorEq] at h
  case ae =>
   cases Nf : n.ble room <;> simp only [Nf, cond_true, cond_false, reduceCtorEq, bf, eO] at h
   obtain ⟨rfl, rfl⟩ := h
   have hle := qS Nf
   have := tq (P := P) (a := none) (len := 0) (cap := 0) hR ht hu GF hi hz HS hb hx jx (by omega) (by omega) (old := []) (old' := []) .nil (by simp) (by simp) rfl
   simpa using this
  case slice b off len c o L hL hc ho hr =>
   cases Nf : (len + n).ble room <;> simp only [Nf, cond_true, cond_false, reduceCtorEq] at h
   have zj := qS Nf
   cases hold : m.row b off (len * i.size) with
   | none => simp [hold] at h
   | some old =>
   simp only [hold] at h
   cases hm : m.get b with
   | dead => simp [hm] at h
   | map es => simp [hm] at h
   | cells cs0 acm el0 ro0 =>
   simp only [hm] at h
   cases ro0 with
   | true => simp at h
   | false =>
   simp only [] at h
   cases he : acm.beq i.size <;> simp only [he, cond_true, cond_false, reduceCtorEq, bf, eO] at h
   obtain rfl := aS he
   obtain ⟨rfl, rfl⟩ := h
   have uB := RQ hR hL hm
   have hB := hR.de b L hL
   rw [hm] at hB;obtain ⟨_, _, _, _, _, _, qY, _⟩ := hB
   by_cases JO : len + n <= c
   ·have FN : ∀ (j : Nat) (v : EV), old[j]? = some v -> cs0[o - L.off + j]? = some v /\ L.off <= o := by
     intro j v hj
     have bn : j < old.length := (uz.1 hj).1
     have WR := uM hold
     have hlp : 0 < len := by
      rcases Nat.eq_zero_or_pos len with h0 | h0
      ·subst h0; simp at WR; subst WR; simp at bn
      ·exact h0
     have ho' := ho hlp
     have iM : len * i.size ≠ 0 := by intro h0; rw [h0] at WR; omega
     rw [Mem.p7 iM] at hold;unfold Mem.Ho at hold;simp only [hm] at hold
     cases hl : (off + len * i.size).ble cs0.length <;> simp only [hl, cond_true, cond_false, reduceCtorEq, bf] at hold
     subst hold;rw [List.getElem?_take] at hj
     split at hj
     ·rw [List.getElem?_drop] at hj
      exact ⟨by rw [show o - L.off + j = off + j by omega]; exact hj, by omega⟩
     ·cases hj
    obtain ⟨w', L', a1, a2, a3, a4, a5, a6, a7, a8⟩ := Kw (P := P) hR hL (by rw [uB]; exact hm) e FN (by rw [uB]; exact uM hold) (by rw [uB]; exact Td) JO (hr qY) f2 f3
    rw [uB] at a1 a7 a8;refine ⟨_, w', .slice (some ⟨L.de, o, none⟩) (len + n) c, ?_, ?_, a7, a8⟩
    ·rw [rT ht hu GF uh s1 JO f1]
     simp only [add_eq, a1, Result.andThen_ok]
    ·have hp : (ρ.put m.next L') m.next = some L' := by simp [ev.put]
     rw [<- a2];refine .slice hp JO (fun _ => by rw [a3]; rfl) (fun _ => ?_)
     rw [a5, a4]; exact hr qY
   ·obtain ⟨a, c', vs0, e1, e2, e3, e4, e5⟩ := nh (P := P) (hR.quiet (qa w)) (.slice hL hc ho hr) i.size (fy len) hold
    cases e1
    obtain ⟨ρ', w', v', g1, g2, g3, g4⟩ := tq (P := P) hR ht hu GF hi hz HS hb hx jx (a := some ⟨L.de, o, none⟩) (len := len) (cap := c) (by omega) zj e3 e4 (uM hold) (by simpa [Builtin.firstCells] using e2)
    obtain ⟨k1, k2⟩ := kill g3 (g4.ext _ _ hL)
    exact ⟨ρ', w', v', g1, g2, k1, g4.trans k2⟩
  case gN b off a =>
   cases Nf : (0 + n).ble room <;> simp only [Nf, cond_true, cond_false, reduceCtorEq] at h
   have zj := qS Nf
   cases hold : m.row b off (0 * i.size) with
   | none => rw [hold] at h; cases h
   | some old =>
   rw [hold] at h; simp only at h
   cases Ts : (0 + n).ble 0 <;> simp only [Ts, cond_true, cond_false, bf, eO] at h
   ·obtain ⟨rfl, rfl⟩ := h
    have Uv : 0 < 0 + n := by
     rcases Nat.lt_or_ge 0 (0 + n) with h1 | h1
     ·exact h1
     ·rw [Be h1] at Ts; cases Ts
    obtain ⟨a', c', vs0, e1, e2, e3, e4, e5⟩ := nh (P := P) (hR.quiet (qa w)) (.gN (b := b) (off := off) (a := a)) i.size (fy 0) hold
    cases e1
    exact tq (P := P) hR ht hu GF hi hz HS hb hx jx (a := some a) (len := 0) (cap := 0) Uv zj e3 e4 (uM hold) (by simpa [Builtin.firstCells] using e2)
   ·exfalso
    have := qS Ts
    have uw : n = 0 := by omega
    simp [uw] at hn
  case fG b off len c o L hL hc ho =>
   cases Nf : (len + n).ble room <;> simp only [Nf, cond_true, cond_false, reduceCtorEq] at h
   have zj := qS Nf
   cases hold : m.row b off (len * i.size) with
   | none => simp [hold] at h
   | some old =>
   simp only [hold] at h
   cases Ts : (len + n).ble c <;> simp only [Ts, cond_true, cond_false, bf, eO] at h
   ·obtain ⟨rfl, rfl⟩ := h
    have Uv : c < len + n := by
     rcases Nat.lt_or_ge c (len + n) with h1 | h1
     ·exact h1
     ·rw [Be h1] at Ts; cases Ts
    obtain ⟨a, c', vs0, e1, e2, e3, e4, e5⟩ := nh (P := P) (hR.quiet (qa w)) (.fG hL hc ho) i.size (fy len) hold
    cases e1
    exact tq (P := P) hR ht hu GF hi hz HS hb hx jx (a := some ⟨L.de, o, none⟩) (len := len) (cap := c) Uv zj e3 e4 (uM hold) (by simpa [Builtin.firstCells] using e2)
   ·have JO := qS Ts
    obtain ⟨m1, Uw, h2⟩ := j8.1 h
    cases h2
    obtain ⟨w', r1, r2, r3⟩ := pO (P := P) hR hL f2 f3 Uw
    refine ⟨ρ, w', .slice (some ⟨L.de, o, none⟩) (len + n) c, ?_, .fG hL JO ho, r2, r3⟩
    rw [rT ht hu GF uh s1 JO f1];have : o = L.off + off := ho (by omega)
    subst this;simp only [add_eq, <- Nat.add_assoc] at r1 ⊢
    simp only [r1, Result.andThen_ok]
end
end
section
section
variable {base : Nat} {ρ : ev} {m : Mem} {w : World} {P : Program}
theorem L4 (hR : R base ρ m w) {t u e : TypeId} {size : Nat} (ht : P.underlying t = some (.slice e)) (hs : gh P e = some size) {d s : EV} {d' s' : Value} (hd : VR ρ d d') (hx : VR ρ s s') {v : EV} {m' : Mem} (h : xV m size d s = some (v, m')) :
  Ai P (Builtin.copy_ #[t, u] t #[d', s']) base ρ m w v m' := by
 unfold xV at h
 cases hd <;> simp only [reduceCtorEq] at h
 case ae =>
  obtain ⟨nx, jx, h2⟩ := j8.1 h
  cases h2
  obtain ⟨s1, s2, s3⟩ := iX (P := P) hR hx size (n := nx.1) (xs := nx.2) jx
  obtain ⟨vs, f1, f2, f3⟩ := s3 0 (ml _)
  refine ⟨ρ, w, .int .i64 0, ?_, .int _ _, hR, .refl _ _ _⟩
  unfold Builtin.copy_;simp only [List.getElem?_toArray, List.getElem?_cons_zero, List.getElem?_cons_succ, Sem.run_bind, run_underlying ht, Result.andThen_ok, s1, b8 hs];rw [show Nat.min nx.1 0 = 0 by simp];simp only [f1, Result.andThen_ok, Sem.run_pure, goInt]
  rfl
 case slice b off len c o L hL hc ho hr =>
  cases jx : m.source size s with
  | none => simp [jx] at h
  | some nx =>
  obtain ⟨n, xs⟩ := nx
  simp only [jx] at h;obtain ⟨m1, Uw, h2⟩ := j8.1 h
  cases h2
  obtain ⟨s1, s2, s3⟩ := iX (P := P) hR hx size jx
  obtain ⟨vs, f1, f2, f3⟩ := s3 (min n len) (Nat.min_le_left _ _)
  obtain ⟨w', r1, r2, r3⟩ := pO (P := P) hR hL f2 f3 Uw
  have eo : (storeCells ⟨L.de, o, none⟩ vs).run P w = .ok () w' := by
   rcases Nat.eq_zero_or_pos len with h0 | h0
   ·have : vs = [] := by
     have := f2.length
     rw [h0] at this;simp at this
     exact List.eq_nil_of_length_eq_zero this.symm
    subst this;exact r1
   ·rw [ho h0]; exact r1
  refine ⟨ρ, w', .int .i64 (min n len : Nat), ?_, .int _ _, r2, r3⟩
  unfold Builtin.copy_;simp only [List.getElem?_toArray, List.getElem?_cons_zero, List.getElem?_cons_succ, Sem.run_bind, run_underlying ht, Result.andThen_ok, s1, b8 hs];rw [show Nat.min n len = min n len from rfl];simp only [f1, Result.andThen_ok, Sem.run_pure, goInt, eo]
 case gN b off a =>
  cases jx : m.source size s with
  | none => simp [jx] at h
  | some nx =>
  obtain ⟨n, xs⟩ := nx
  simp only [jx] at h;obtain ⟨m1, Uw, h2⟩ := j8.1 h
  cases h2
  obtain ⟨s1, s2, s3⟩ := iX (P := P) hR hx size jx
  obtain ⟨vs, f1, f2, f3⟩ := s3 (min n 0) (Nat.min_le_left _ _)
  obtain ⟨q1, q2⟩ := Ob (by rw [Nat.min_zero, Nat.zero_mul, List.take_zero] at Uw; exact Uw)
  obtain ⟨r2, r3⟩ := hR.Qj q1 q2
  have yd : vs = [] := by
   have := f2.length
   simp at this
   exact List.eq_nil_of_length_eq_zero this.symm
  subst yd;refine ⟨ρ, w, .int .i64 (min n 0 : Nat), ?_, .int _ _, r2, r3⟩
  unfold Builtin.copy_;simp only [List.getElem?_toArray, List.getElem?_cons_zero, List.getElem?_cons_succ, Sem.run_bind, run_underlying ht, Result.andThen_ok, s1, b8 hs];rw [show Nat.min n 0 = min n 0 from rfl];simp only [f1, Result.andThen_ok, Sem.run_pure, goInt, storeCells]
 case fG b off len c o L hL hc ho =>
  cases jx : m.source size s with
  | none => simp [jx] at h
  | some nx =>
  obtain ⟨n, xs⟩ := nx
  simp only [jx] at h;obtain ⟨m1, Uw, h2⟩ := j8.1 h
  cases h2
  obtain ⟨s1, s2, s3⟩ := iX (P := P) hR hx size jx
  obtain ⟨vs, f1, f2, f3⟩ := s3 (min n len) (Nat.min_le_left _ _)
  obtain ⟨w', r1, r2, r3⟩ := pO (P := P) hR hL f2 f3 Uw
  have eo : (storeCells ⟨L.de, o, none⟩ vs).run P w = .ok () w' := by
   rcases Nat.eq_zero_or_pos len with h0 | h0
   ·have : vs = [] := by
     have := f2.length
     rw [h0] at this;simp at this
     exact List.eq_nil_of_length_eq_zero this.symm
    subst this;exact r1
   ·rw [ho (by omega)]; exact r1
  refine ⟨ρ, w', .int .i64 (min n len : Nat), ?_, .int _ _, r2, r3⟩
  unfold Builtin.copy_;simp only [List.getElem?_toArray, List.getElem?_cons_zero, List.getElem?_cons_succ, Sem.run_bind, run_underlying ht, Result.andThen_ok, s1, b8 hs];rw [show Nat.min n len = min n len from rfl];simp only [f1, Result.andThen_ok, Sem.run_pure, goInt, eo]
def UO (P : Program) (kt : TypeId) (c : Nat) : Prop := ∃ d, P.underlying kt = some d /\ ((c = 0 /\ d = .bool) \/ (c = 1 /\ d = .string) \/ (c = 2 /\ ∃ k, d = .int k))
theorem x5 {kt : TypeId} {c : Nat} (h : Io P kt = some c) : UO P kt c := by
 unfold Io at h
 cases hu : P.underlying kt with
 | none => simp [hu] at h
 | some d =>
  rw [hu] at h;refine ⟨d, hu, ?_⟩
  cases d <;> simp at h <;> subst h <;> simp
theorem gS {kt : TypeId} {c : Nat} (h : UO P kt c) (b : Bool) (n : Nat) (v : Value) (w : World) : (Instr.checkKey b (n + 1) kt v).run P w = .ok () w := by
 obtain ⟨d, hu, h⟩ := h
 rcases h with ⟨_, rfl⟩ | ⟨_, rfl⟩ | ⟨_, k, rfl⟩ <;> simp [Instr.checkKey, run_underlying hu]
theorem xE : ∀ {a b : Int}, sU a b = decide (a = b)
 | .ofNat a, .ofNat b => by
  simp only [sU]
  cases h : a.beq b with
  | true => simp [aS h]
  | false => have := jZ h; simp; omega
 | .negSucc a, .negSucc b => by
  simp only [sU]
  cases h : a.beq b with
  | true => simp [aS h]
  | false => have := jZ h; simp [this]
 | .ofNat a, .negSucc b => by simp [sU]
 | .negSucc a, .ofNat b => by simp [sU]
theorem O3 {k l : IntKind} (h : 2 + bZ k = 2 + bZ l) : k = l := jN (by rw [show bZ k = bZ l by omega]; exact dR _)
theorem Rb {kt : TypeId} {c : Nat} {d : TypeDesc} (hu : P.underlying kt = some d) (hd : (c = 0 /\ d = .bool) \/ (c = 1 /\ d = .string) \/ (c = 2 /\ ∃ k, d = .int k)) {k l : EV} {k' l' : Value} (hk : VR ρ k k') (hl : VR ρ l l') (rO : lP c k = true) (hs : kM l = kM k) :
  Instr.sameNow d k' l' = some (EV.same k l) /\ (EV.same k l = true -> Instr.sameBits 10000 l' k' = true) := by
 cases hk <;> simp only [lP, re] at rO
 case bool a =>
  cases hl <;> simp only [kM] at hs <;> (try (omega))
  ·have := aS rO; subst this
   rcases hd with ⟨_, rfl⟩ | ⟨h, _⟩ | ⟨h, _⟩
   ·exact ⟨rfl, fun h => by simp [EV.same] at h; simp [Instr.sameBits, h]⟩
   ·cases h
   ·cases h
 case int x a =>
  cases hl <;> simp only [kM] at hs <;> (try (exfalso; cases x <;> simp [bZ] at hs; done))
  ·have := aS rO; subst this
   obtain rfl := O3 hs
   rcases hd with ⟨h, _⟩ | ⟨h, _⟩ | ⟨_, kk, rfl⟩
   ·cases h
   ·cases h
   ·refine ⟨?_, fun h => ?_⟩
    ·simp only [Instr.sameNow, if_true, EV.same, dR, cond_true, xE]; rfl
    ·simp only [EV.same, dR, cond_true, xE, decide_eq_true_eq] at h
     simp [Instr.sameBits, h]
 case str a =>
  cases hl <;> simp only [kM] at hs <;> (try omega)
  ·have := aS rO; subst this
   rcases hd with ⟨h, _⟩ | ⟨_, rfl⟩ | ⟨h, _⟩
   ·cases h
   ·refine ⟨?_, fun h => ?_⟩
    ·simp only [Instr.sameNow, EV.same, fE, bytes_beq]
    ·simp only [EV.same, fE, decide_eq_true_eq] at h
     simp [Instr.sameBits, bytes_beq, h]
   ·cases h
def GX (ρ : ev) (es : List (EV × EV)) (ds : List MapEntry) : Prop := es.length = ds.length /\ ∀ (i : Nat) (e : EV × EV) (d : MapEntry), es[i]? = some e -> ds[i]? = some d -> Wq ρ e d
theorem GX.cons {e : EV × EV} {es : List (EV × EV)} {ds : List MapEntry} (h : GX ρ (e :: es) ds) : ∃ d vj, ds = d :: vj /\ Wq ρ e d /\ GX ρ es vj := by
 cases ds with
 | nil => have := h.1; simp at this
 | cons d vj => exact ⟨d, vj, rfl, h.2 0 e d rfl rfl, by have := h.1; simpa using this, fun i a b ha hb => h.2 (i + 1) a b (by simpa using ha) (by simpa using hb)⟩
theorem xS {kt : TypeId} {c : Nat} {d : TypeDesc} (hu : P.underlying kt = some d) (hd : (c = 0 /\ d = .bool) \/ (c = 1 /\ d = .string) \/ (c = 2 /\ ∃ k, d = .int k)) {k : EV} {k' : Value} (hk : VR ρ k k') (rO : lP c k = true) :
  ∀ (es : List (EV × EV)) (ds : List MapEntry) (i : Nat), GX ρ es ds -> oj k es = true ->
   (Instr.findNow d k' ds i = some none /\ find k es = none /\ (∀ v, update k v es = es ++ [(k, v)]) /\ erase k es = es) \/
   (∃ j v v' old, Instr.findNow d k' ds i = some (some (i + j, v')) /\ find k es = some v /\ VR ρ v v' /\ ds[j]? = some old /\ old.val = v' /\ (∀ u, update k u es = es.set j (k, u)) /\ erase k es = es.eraseIdx j /\ j < es.length /\ Instr.sameBits 10000 old.key k' = true) := by
 intro es
 induction es with
 | nil =>
  intro ds i h _
  have : ds = [] := by have := h.1; simp at this; exact List.eq_nil_of_length_eq_zero this.symm
  subst this;exact .inl ⟨rfl, rfl, fun _ => rfl, rfl⟩
 | cons e es ih =>
  intro ds i h hs
  obtain ⟨x, vj, rfl, hx, hr⟩ := h.cons
  obtain ⟨l, u⟩ := e
  simp only [oj] at hs
  cases Rj : (kM l).beq (kM k) <;> simp only [Rj, cond_true, cond_false, re] at hs
  obtain ⟨rN, Sv⟩ := Rb hu hd hk hx.1 rO (aS Rj)
  cases hq : EV.same k l with
  | true =>
   right
   refine ⟨0, u, x.val, x, ?_, ?_, hx.2, rfl, rfl, fun z => ?_, ?_, by simp, Sv hq⟩
   ·simp only [Instr.findNow, rN, hq]; rfl
   ·simp [find, hq]
   ·simp [update, hq]
   ·simp [erase, hq]
  | false =>
   rcases ih vj (i + 1) hr hs with ⟨a1, a2, a3, a4⟩ | ⟨j, v, v', old, a1, a2, a3, a4, a5, a6, a7, a8, a9⟩
   ·left
    refine ⟨?_, by simp [find, hq, a2], fun z => by simp [update, hq, a3], by simp [erase, hq, a4]⟩
    simp only [Instr.findNow, rN, hq]; exact a1
   ·right
    refine ⟨j + 1, v, v', old, ?_, by simp [find, hq, a2], a3, by simpa using a4, a5, fun z => by simp [update, hq, a6], by simp [erase, hq, a7], by simp; omega, a9⟩
    simp only [Instr.findNow, rN, hq];rw [a1]; congr 3; omega
theorem th {c : Nat} {k : EV} {es : List (EV × EV)} (h : iI c k es = true) : lP c k = true /\ oj k es = true := by
 unfold iI at h
 cases hk : lP c k <;> simp only [hk, cond_true, cond_false, re] at h
 exact ⟨rfl, h⟩
theorem HH (hR : R base ρ m w) {b : Nat} {L : Loc} (hL : ρ b = some L) {es : List (EV × EV)} (hm : m.get b = .map es) : ∃ ds c, w.heap[L.de]? = some (.map ds c) /\ GX ρ es ds.toList /\ base <= L.de /\ L.ro = false := by
 have := hR.de b L hL
 rw [hm] at this;obtain ⟨ds, c, h1, h2, h3, h4⟩ := this
 exact ⟨ds, c, h1, ⟨by simpa using h2, fun i e d he hd => h3 i e d he (by simpa using hd)⟩, h4⟩
theorem wv (hR : R base ρ m w) {b : Nat} {L : Loc} (hL : ρ b = some L) {es fs : List (EV × EV)} (hm : m.get b = .map es) {ds gs : Array MapEntry} {c c' : Nat} (hw : w.heap[L.de]? = some (.map ds c)) (he : GX ρ fs gs.toList) (JR : base <= L.de) (qY : L.ro = false) :
  R base ρ (m.set b (.map fs)) { w with heap := w.heap.setIfInBounds L.de (.map gs c') } /\ Step ρ m w ρ (m.set b (.map fs)) { w with heap := w.heap.setIfInBounds L.de (.map gs c') } := by
 have xO : Live m b := by unfold Live; rw [hm]; simp
 have lQ : ∀ d, d ≠ b -> (m.set b (.map fs)).get d = m.get d := fun d hd => by rw [Mem.bW, if_neg hd]
 have EF : ∀ d, Live (m.set b (.map fs)) d -> Live m d := by
  intro d hd
  by_cases e : d = b
  ·subst e; exact xO
  ·unfold Live at hd ⊢; rwa [lQ d e] at hd
 have bn : L.de < w.heap.size := (Array.getElem?_eq_some_iff.1 hw).1
 have HV : ∀ k, k ≠ L.de -> (w.heap.setIfInBounds L.de (.map gs c'))[k]? = w.heap[k]? := fun k hk => by rw [Array.getElem?_setIfInBounds_ne (by omega)]
 refine ⟨⟨hR.lt, fun d M hM => ?_, fun d f M M' h1 h2 h3 h4 => hR.inj d f M M' h1 h2 (EF d h3) (EF f h4), by simpa using hR.base, fun d hd => by rw [lQ d (fun e => by subst e; have := hR.lt _ _ hL; rw [Mem.cg] at hd; omega)]; exact hR.clean d hd⟩,
  ⟨.refl ρ, fun _ h h' => absurd h h', fy _, fun d hd hn => lQ d (fun e => by subst e; rw [hL] at hn; cases hn), fun d _ hd => by rw [lQ d (fun e => by subst e; rw [hm] at hd; cases hd)]; exact hd, by simp, fun i hi => ?_, fun i hi hr => HV i (fun e => hr ⟨b, L, hL, xO, qY, e.symm⟩), rfl, rfl, rfl⟩⟩
 ·by_cases e : d = b
  ·subst e
   rw [hL] at hM; cases hM
   rw [Mem.bW, if_pos rfl];refine ⟨gs, c', by simp [bn], by simpa using he.1, fun i x y hx hy => he.2 i x y hx (by simpa using hy), JR, qY⟩
  ·rw [lQ d e]
   by_cases hl : m.get d = .dead
   ·rw [hl]; trivial
   ·have iM : M.de ≠ L.de := fun xl => e (hR.inj b d L M hL hM xO hl qY xl.symm).symm
    exact (hR.de d M hM).of_heap (.refl ρ) (HV _ iM)
 ·rintro ⟨d, M, hM, h1, h2, h3⟩
  exact ⟨d, M, hM, EF d h1, h2, h3⟩
theorem run_getObj_map {r : Nat} {ds : Array MapEntry} {c : Nat} (h : w.heap[r]? = some (.map ds c)) : (getObj r).run P w = .ok (.map ds c) w := by
 simp only [getObj, Sem.run, h]
theorem run_setObj_map {r : Nat} {ds : Array MapEntry} {c : Nat} (h : w.heap[r]? = some (.map ds c)) (o : Obj) : (setObj r o).run P w = .ok () { w with heap := w.heap.setIfInBounds r o } := by
 simp only [setObj, Sem.run, h]
theorem HJ (hR : R base ρ m w) {t kt e : TypeId} {c : Nat} (ht : P.underlying t = some (.map kt e)) (hc : Io P kt = some c) {z : EV} (hz : GS P e = some z) {mp k : EV} {Uk k' : Value} (XY : VR ρ mp Uk) (hk : VR ρ k k') {ok : Bool} {fr : aW -> EV} {om Ub : aW} (e1 : fr om = mp) (e2 : fr Ub = k) {v : EV} {m' : Mem}
  (h : aB fr (.lookup c z ok om Ub) m = some (.val v m')) : Ai P (Instr.lookup t Uk k' ok) base ρ m w v m' := by
 obtain ⟨zv, z1, z2⟩ := DM (ρ := ρ) hz
 have Pf := x5 hc
 have Rt := Pf
 obtain ⟨d, hu, hd⟩ := Rt
 simp only [aB, e1, e2] at h
 cases XY <;> simp only [reduceCtorEq] at h
 case bz =>
  cases rO : lP c k <;> simp only [rO, cond_true, cond_false, reduceCtorEq, bf, R1.val.injEq] at h
  obtain ⟨rfl, rfl⟩ := h
  refine ⟨ρ, w, if ok then .tuple #[zv, .bool false] else zv, ?_, ?_, hR, .refl _ _ _⟩
  ·simp only [Instr.lookup, Sem.run_bind, run_underlying ht, Result.andThen_ok, Sem.run_pure, gS Pf, Instr.findKey, run_underlying hu, Instr.findNow, z1]
  ·cases ok
   ·exact z2
   ·exact .tuple (.cons z2 (.cons (.bool _) .nil))
 case map b L hL =>
  cases hm : m.get b with
  | dead => simp [hm] at h
  | cells => simp [hm] at h
  | map es =>
  simp only [hm] at h
  cases PS : iI c k es <;> simp only [PS, cond_true, cond_false, reduceCtorEq] at h
  obtain ⟨rO, Rj⟩ := th PS
  obtain ⟨ds, cl, hw, uB, _, _⟩ := HH hR hL hm
  rcases xS hu hd hk rO es ds.toList 0 uB Rj with ⟨a1, a2, _, _⟩ | ⟨j, x, x', old, a1, a2, a3, a4, a5, _⟩
  ·simp only [a2, bf, R1.val.injEq] at h
   obtain ⟨rfl, rfl⟩ := h
   refine ⟨ρ, w, if ok then .tuple #[zv, .bool false] else zv, ?_, ?_, hR, .refl _ _ _⟩
   ·simp only [Instr.lookup, Sem.run_bind, run_underlying ht, Result.andThen_ok, Sem.run_pure, run_getObj_map hw, gS Pf, Instr.findKey, run_underlying hu, a1, z1]
   ·cases ok
    ·exact z2
    ·exact .tuple (.cons z2 (.cons (.bool _) .nil))
  ·simp only [a2, bf, R1.val.injEq] at h
   obtain ⟨rfl, rfl⟩ := h
   refine ⟨ρ, w, if ok then .tuple #[x', .bool true] else x', ?_, ?_, hR, .refl _ _ _⟩
   ·simp only [Instr.lookup, Sem.run_bind, run_underlying ht, Result.andThen_ok, Sem.run_pure, run_getObj_map hw, gS Pf, Instr.findKey, run_underlying hu, a1]
   ·cases ok
    ·exact a3
    ·exact .tuple (.cons a3 (.cons (.bool _) .nil))
theorem y0 (hR : R base ρ m w) {t kt e : TypeId} {c : Nat} (ht : P.underlying t = some (.map kt e)) (hc : Io P kt = some c) {mp k x : EV} {Uk k' x' : Value} (XY : VR ρ mp Uk) (hk : VR ρ k k') (hx : VR ρ x x') {fr : aW -> EV} {om Ub ox : aW} (e1 : fr om = mp) (e2 : fr Ub = k) (e3 : fr ox = x) {v : EV} {m' : Mem}
  (h : aB fr (.pg c om Ub ox) m = some (.val v m')) : ∃ w', (Instr.mapUpdate t Uk k' x').run P w = .ok () w' /\ v = .undef /\ R base ρ m' w' /\ Step ρ m w ρ m' w' := by
 have Pf := x5 hc
 have Rt := Pf
 obtain ⟨d, hu, hd⟩ := Rt
 simp only [aB, e1, e2, e3] at h
 cases XY <;> simp only [reduceCtorEq] at h
 case map b L hL =>
  cases hm : m.get b with
  | dead => simp [hm] at h
  | cells => simp [hm] at h
  | map es =>
  simp only [hm] at h
  cases PS : iI c k es <;> simp only [PS, cond_true, cond_false, reduceCtorEq, bf, R1.val.injEq] at h
  obtain ⟨rO, Rj⟩ := th PS
  obtain ⟨rfl, rfl⟩ := h
  obtain ⟨ds, cl, hw, uB, hb, qY⟩ := HH hR hL hm
  rcases xS hu hd hk rO es ds.toList 0 uB Rj with ⟨a1, _, a3, _⟩ | ⟨j, y, y', old, a1, _, _, a4, a5, a6, _, a8, a9⟩
  ·obtain ⟨q1, q2⟩ := wv (c' := cl + 1) hR hL hm hw (fs := update k x es) (gs := ds.push { key := k', val := x', born := cl }) (by
    rw [a3];refine ⟨by simp [uB.1], fun i p q hp hq => ?_⟩
    simp only [Array.toList_push] at hq;by_cases hi : i < es.length
    ·rw [BC hi] at hp
     rw [BC (by rw [<- uB.1]; exact hi)] at hq
     exact uB.2 i p q hp hq
    ·rw [FA (by omega)] at hp
     rw [FA (by rw [<- uB.1]; omega), <- uB.1] at hq
     have h0 : i - es.length = 0 := by
      have := (uz.1 hp).1
      simp at this; omega
     rw [h0] at hp hq;simp at hp hq
     subst hp hq
     exact ⟨hk, hx⟩) hb qY
   refine ⟨_, ?_, rfl, q1, q2⟩
   simp only [Instr.mapUpdate, Sem.run_bind, run_underlying ht, Result.andThen_ok, Sem.run_pure, run_getObj_map hw, gS Pf, Instr.findKey, run_underlying hu, a1, run_setObj_map hw]
  ·have hjd : j < ds.size := by have := uB.1; simp at this; omega
   have EJ : ds[j]? = some old := by simpa using a4
   obtain ⟨q1, q2⟩ := wv (c' := cl) hR hL hm hw (fs := update k x es) (gs := ds.modify j fun e => { e with key := k', val := x' }) (by
    rw [a6];refine ⟨by simp; simpa using uB.1, fun i p q hp hq => ?_⟩
    rw [Array.getElem?_toList, Array.getElem?_modify] at hq;rw [List.getElem?_set] at hp;by_cases UB : j = i
    ·subst UB
     rw [if_pos rfl, if_pos a8] at hp;rw [if_pos rfl, EJ] at hq
     cases hp; cases hq
     exact ⟨hk, hx⟩
    ·rw [if_neg UB] at hp
     rw [if_neg UB] at hq;exact uB.2 i p q hp (by simpa using hq)) hb qY
   refine ⟨_, ?_, rfl, q1, q2⟩
   simp only [Instr.mapUpdate, Sem.run_bind, run_underlying ht, Result.andThen_ok, Sem.run_pure, run_getObj_map hw, gS Pf, Instr.findKey, run_underlying hu, a1, Nat.zero_add, EJ, Option.map_some, Option.getD_some, Instr.keyThatStays, a9, if_true, run_setObj_map hw]
theorem Ii (hR : R base ρ m w) {t u kt e : TypeId} {c : Nat} (ht : P.underlying t = some (.map kt e)) (hc : Io P kt = some c) {mp k : EV} {Uk k' : Value} (XY : VR ρ mp Uk) (hk : VR ρ k k') {fr : aW -> EV} {om Ub : aW} (e1 : fr om = mp) (e2 : fr Ub = k) {v : EV} {m' : Mem} (ty : TypeId)
  (h : aB fr (.delete c om Ub) m = some (.val v m')) : Ai P (Builtin.delete_ #[t, u] ty #[Uk, k']) base ρ m w v m' := by
 have Pf := x5 hc
 have Rt := Pf
 obtain ⟨d, hu, hd⟩ := Rt
 simp only [aB, e1, e2] at h
 cases XY <;> simp only [reduceCtorEq] at h
 case bz =>
  cases rO : lP c k <;> simp only [rO, cond_true, cond_false, reduceCtorEq, bf, R1.val.injEq] at h
  obtain ⟨rfl, rfl⟩ := h
  refine ⟨ρ, w, .tuple #[], ?_, .tuple .nil, hR, .refl _ _ _⟩
  simp only [Builtin.delete_, List.getElem?_toArray, List.getElem?_cons_zero, List.getElem?_cons_succ, Sem.run_bind, run_underlying ht, Result.andThen_ok, gS Pf, Sem.run_pure]
 case map b L hL =>
  cases hm : m.get b with
  | dead => simp [hm] at h
  | cells => simp [hm] at h
  | map es =>
  simp only [hm] at h
  cases PS : iI c k es <;> simp only [PS, cond_true, cond_false, reduceCtorEq, bf, R1.val.injEq] at h
  obtain ⟨rO, Rj⟩ := th PS
  obtain ⟨rfl, rfl⟩ := h
  obtain ⟨ds, cl, hw, uB, hb, qY⟩ := HH hR hL hm
  rcases xS hu hd hk rO es ds.toList 0 uB Rj with ⟨a1, _, _, a4⟩ | ⟨j, y, y', old, a1, _, _, a4, _, _, a7, a8, _⟩
  ·obtain ⟨q1, q2⟩ := wv (c' := cl) hR hL hm hw (fs := erase k es) (gs := ds) (by rw [a4]; exact uB) hb qY
   refine ⟨ρ, _, .tuple #[], ?_, .tuple .nil, q1, q2⟩
   simp only [Builtin.delete_, List.getElem?_toArray, List.getElem?_cons_zero, List.getElem?_cons_succ, Sem.run_bind, run_underlying ht, Result.andThen_ok, run_getObj_map hw, gS Pf, Instr.findKey, run_underlying hu, a1, Sem.run_pure, run_setObj_map hw]
  ·obtain ⟨q1, q2⟩ := wv (c' := cl) hR hL hm hw (fs := erase k es) (gs := ds.eraseIdxIfInBounds j) (by
    rw [a7];have hjd : j < ds.size := by have := uB.1; simp at this; omega
    have hl : (ds.eraseIdxIfInBounds j).toList = ds.toList.eraseIdx j := by
     simp [Array.eraseIdxIfInBounds, hjd]
    rw [hl];refine ⟨by rw [List.length_eraseIdx, List.length_eraseIdx, uB.1], fun i p q hp hq => ?_⟩
    rw [List.getElem?_eraseIdx] at hp hq;by_cases UB : i < j
    ·rw [if_pos UB] at hp hq; exact uB.2 i p q hp hq
    ·rw [if_neg UB] at hp hq; exact uB.2 (i + 1) p q hp hq) hb qY
   refine ⟨ρ, _, .tuple #[], ?_, .tuple .nil, q1, q2⟩
   simp only [Builtin.delete_, List.getElem?_toArray, List.getElem?_cons_zero, List.getElem?_cons_succ, Sem.run_bind, run_underlying ht, Result.andThen_ok, run_getObj_map hw, gS Pf, Instr.findKey, run_underlying hu, a1, Sem.run_pure, Nat.zero_add, run_setObj_map hw]
theorem QU : ∀ (l : List EV) (l' : List Value) (k : IntKind) (x : Int) (v : EV), fx ρ l l' -> mU k x l = some v -> ∃ v', VR ρ v v' /\ (l'.foldlM Builtin.max2 (.int k x)).run P w = .ok v' w := by
 intro l
 induction l with
 | nil => intro l' k x v hl h; cases hl; simp [mU] at h; subst h; exact ⟨_, .int _ _, rfl⟩
 | cons y l ih =>
  intro l' k x v hl h
  cases hl with
  | cons hy hs =>
  cases hy with
  | int k2 n =>
   simp only [mU] at h
   cases hk : (bZ k).beq (bZ k2) <;> simp only [hk, cond_true, cond_false, reduceCtorEq] at h
   obtain rfl := jN hk
   obtain ⟨v', h1, h2⟩ := ih _ k _ v hs h
   exact ⟨v', h1, by simp only [List.foldlM_cons, Builtin.max2, Sem.run_bind, Sem.run_pure, Result.andThen_ok, h2]⟩
  | _ => simp [mU] at h
theorem QR : ∀ (l : List EV) (l' : List Value) (k : IntKind) (x : Int) (v : EV), fx ρ l l' -> mT k x l = some v -> ∃ v', VR ρ v v' /\ (l'.foldlM Builtin.min2 (.int k x)).run P w = .ok v' w := by
 intro l
 induction l with
 | nil => intro l' k x v hl h; cases hl; simp [mT] at h; subst h; exact ⟨_, .int _ _, rfl⟩
 | cons y l ih =>
  intro l' k x v hl h
  cases hl with
  | cons hy hs =>
  cases hy with
  | int k2 n =>
   simp only [mT] at h
   cases hk : (bZ k).beq (bZ k2) <;> simp only [hk, cond_true, cond_false, reduceCtorEq] at h
   obtain rfl := jN hk
   obtain ⟨v', h1, h2⟩ := ih _ k _ v hs h
   exact ⟨v', h1, by simp only [List.foldlM_cons, Builtin.min2, Sem.run_bind, Sem.run_pure, Result.andThen_ok, h2]⟩
  | _ => simp [mT] at h
theorem OW {l : List EV} {l' : List Value} (hl : fx ρ l l') {v : EV} (h : xy l = some v) (a : Array TypeId) (t : TypeId) : ∃ v', VR ρ v v' /\ (Builtin.max_ a t ⟨l'⟩).run P w = .ok v' w := by
 cases hl with
 | nil => simp [xy] at h
 | cons hx hs =>
  cases hx with
  | int k n => exact QU _ _ k n v hs h
  | _ => simp [xy] at h
theorem OU {l : List EV} {l' : List Value} (hl : fx ρ l l') {v : EV} (h : xx l = some v) (a : Array TypeId) (t : TypeId) : ∃ v', VR ρ v v' /\ (Builtin.min_ a t ⟨l'⟩).run P w = .ok v' w := by
 cases hl with
 | nil => simp [xx] at h
 | cons hx hs =>
  cases hx with
  | int k n => exact QR _ _ k n v hs h
  | _ => simp [xx] at h
end
end
section
section
variable {G : List Nat} {base : Nat} {ρ : ev} {m : Mem} {w : World} {P : Program} {n : Nat} {fr : Fr} {a : Act}
theorem fR {v : EV} {m m' : Mem} {x : Option EV} (h : gx m x = some (.val v m')) : x = some v /\ m' = m := by
 unfold gx at h;obtain ⟨y, hy, h2⟩ := j8.1 h
 cases h2
 exact ⟨hy, rfl⟩
theorem lH {v : EV} {m' : Mem} {x : Option (EV × Mem)} (h : xf x = some (.val v m')) : x = some (v, m') := by
 unfold xf at h;obtain ⟨y, hy, h2⟩ := j8.1 h
 cases h2
 exact hy
theorem SY {v : EV} {m' : Mem} {x : Option Mem} (h : ofM x = some (.val v m')) : x = some m' /\ v = .undef := by
 unfold ofM at h;obtain ⟨y, hy, h2⟩ := j8.1 h
 cases h2
 exact ⟨hy, rfl⟩
theorem ag {α β : Type} {x : Option α} {f : α -> β} {y : β} (h : x.map f = some y) : ∃ a, x = some a /\ f a = y := j8.1 h
theorem RU {op : BinOp} {neg : Bool} (lB : (op = .eql /\ neg = false) \/ (op = .neq /\ neg = true)) {t : TypeId} {e : sj} (he : nH P 20 t = some e) (nR : P.eqGuardType P.depth t = false \/ ∃ ms, P.underlying t = some (.interface ms)) {ox oy : Operand} {x y : EV} {x' y' : Value} (hx : VR ρ x x') (hy : VR ρ y y') {b : Bool} (h : eL e x y = some b) :
  ((do eqGuard op t ox oy x' y'; binOp op t x' y') : Sem Value).run P w = .ok (.bool (neg ^^ b)) w := by
 have hr := LX (P := P) (w := w) 20 t e he Op.maxDepth (by decide) x y x' y' hx hy b h
 have VT : (eqGuard op t ox oy x' y').run P w = .ok () w := by
  cases hx with
  | agg hv hf =>
   cases hy with
   | agg rM hf' =>
    rcases nR with nR | ⟨ms, Zc⟩
    ·rcases lB with ⟨rfl, rfl⟩ | ⟨rfl, rfl⟩ <;> simp [eqGuard, nR]
    ·simp [nH, Zc] at he
     subst he;simp [eL, dP] at h
   | undef => cases e <;> simp [eL, dP] at h
   | _ => rcases lB with ⟨rfl, rfl⟩ | ⟨rfl, rfl⟩ <;> rfl
  | undef => cases e <;> simp [eL, dP] at h
  | aD =>
   cases hy with
   | aD =>
    exfalso
    cases e with
    | aG k => simp [eL, dP] at h
    | agg es => simp [eL] at h
   | undef => cases e <;> simp [eL, dP] at h
   | _ => rcases lB with ⟨rfl, rfl⟩ | ⟨rfl, rfl⟩ <;> rfl
  | _ => rcases lB with ⟨rfl, rfl⟩ | ⟨rfl, rfl⟩ <;> rfl
 simp only [Sem.run_bind, VT, Result.andThen_ok]
 -- whole numbers and strings are YF by other ways
 cases hx with
 | int k z =>
  cases hy with
  | int l u =>
   cases e with
   | agg es => simp [eL] at h
   | aG q =>
    simp only [eL, dP] at h
    cases hq : q.beq 1 <;> simp only [hq, cond_true, cond_false, reduceCtorEq] at h
    cases hk : (bZ k).beq (bZ l) <;> simp only [hk, cond_true, cond_false, reduceCtorEq, bf] at h
    obtain rfl := jN hk
    subst h;rcases lB with ⟨rfl, rfl⟩ | ⟨rfl, rfl⟩
    ·simp [binOp, Op.intCmp]; rfl
    ·simp [binOp, Op.intCmp]; rfl
  | _ => cases e <;> simp [eL, dP] at h
 | str s =>
  cases hy with
  | str s2 =>
   cases e with
   | agg es => simp [eL] at h
   | aG q =>
    simp only [eL, dP] at h
    cases hq : q.beq 2 <;> simp only [hq, cond_true, cond_false, reduceCtorEq, bf] at h
    subst h;rcases lB with ⟨rfl, rfl⟩ | ⟨rfl, rfl⟩ <;> simp only [binOp, Op.stringOp, x8, fE, Ep] <;> simp
  | _ => cases e <;> simp [eL, dP] at h
 | _ =>
  cases hy <;> (first
   | (cases e <;> simp [eL, dP] at h; done)
   | (rcases lB with ⟨rfl, rfl⟩ | ⟨rfl, rfl⟩
      ·simp only [binOp, Op.equal, Sem.run_bind, hr, Result.andThen_ok, Sem.run_pure]; simp
      ·simp only [binOp, Op.equal, Sem.run_bind, hr, Result.andThen_ok, Sem.run_pure]; simp))
theorem Kl {o : Oper} {c : Go.Call} (ho : o.op = .call c) {b : Builtin} (hb : c.callee = .builtin b) :
  execOp a.eval o = builtin b c.argTypes o.type (c.args.map fun | .const _ => true | _ => false) (c.args.map a.eval) := by
 simp only [execOp, ho, resolve, hb]
 rfl
theorem O1 (hR : R base ρ m w) {t ty : TypeId} {e : TypeId} (hu : P.underlying t = some (.slice e)) {x : EV} {x' : Value} (hx : VR ρ x x') {v : EV} {fr : aW -> EV} {ox : aW} (e1 : fr ox = x) {m' : Mem} (h : aB fr (.len ox) m = some (.val v m')) :
  Ai P (Builtin.len_ #[t] ty #[x']) base ρ m w v m' := by
 simp only [aB, e1] at h
 cases hx <;> simp only [reduceCtorEq, bf, R1.val.injEq] at h
 all_goals
  obtain ⟨rfl, rfl⟩ := h
  exact ⟨ρ, w, _, by simp only [Builtin.len_, List.getElem?_toArray, List.getElem?_cons_zero, Sem.run_bind, run_underlying hu, Result.andThen_ok, Sem.run_pure, goInt] <;> rfl, .int _ _, hR, .refl _ _ _⟩
theorem HN (hR : R base ρ m w) {t ty : TypeId} (hu : P.underlying t = some .string) {x : EV} {x' : Value} (hx : VR ρ x x') {v : EV} {fr : aW -> EV} {ox : aW} (e1 : fr ox = x) {m' : Mem} (h : aB fr (.cD ox) m = some (.val v m')) :
  Ai P (Builtin.len_ #[t] ty #[x']) base ρ m w v m' := by
 simp only [aB, e1] at h
 cases hx <;> simp only [reduceCtorEq, bf, R1.val.injEq] at h
 case str s =>
  obtain ⟨rfl, rfl⟩ := h
  exact ⟨ρ, w, .int .i64 (s.size : Int), by simp [Builtin.len_, run_underlying hu, goInt], .int _ _, hR, .refl _ _ _⟩
theorem HO (hR : R base ρ m w) {t ty k e : TypeId} (hu : P.underlying t = some (.map k e)) {x : EV} {x' : Value} (hx : VR ρ x x') {v : EV} {fr : aW -> EV} {ox : aW} (e1 : fr ox = x) {m' : Mem} (h : aB fr (.qX ox) m = some (.val v m')) :
  Ai P (Builtin.len_ #[t] ty #[x']) base ρ m w v m' := by
 simp only [aB, e1] at h
 cases hx <;> simp only [reduceCtorEq, bf, R1.val.injEq] at h
 case bz =>
  obtain ⟨rfl, rfl⟩ := h
  exact ⟨ρ, w, _, by simp only [Builtin.len_, List.getElem?_toArray, List.getElem?_cons_zero, Sem.run_bind, run_underlying hu, Result.andThen_ok, Sem.run_pure, goInt] <;> rfl, .int _ _, hR, .refl _ _ _⟩
 case map b L hL =>
  cases hm : m.get b with
  | dead => simp [hm] at h
  | cells => simp [hm] at h
  | map es =>
   simp only [hm, bf, R1.val.injEq] at h;obtain ⟨rfl, rfl⟩ := h
   obtain ⟨ds, c, hw, he, _⟩ := HH hR hL hm
   refine ⟨ρ, w, .int .i64 (ds.size : Int), ?_, ?_, hR, .refl _ _ _⟩
   ·simp [Builtin.len_, run_underlying hu, goInt, run_getObj_map hw]
   ·have := he.1
    simp at this
    rw [this]; exact .int _ _
theorem F4 (hR : R base ρ m w) {b : Builtin} {ts : List TypeId} {FB : List Value} {ys : List aW} (hv : fx ρ (ys.map fr.eval) FB) {io : lD} (hc : vp P b ts ys = some io) (ty : TypeId) (cs : Array Bool) {v : EV} {m' : Mem} (h : aB fr.eval io m = some (.val v m')) :
  Good base ρ m w v m' ((builtin b ⟨ts⟩ ty cs ⟨FB⟩).run P w) := by
 unfold vp at hc
 split at hc
 ·-- len
  rename_i t x
  cases hv with
  | cons hx hn =>
  cases hn
  cases hu : P.underlying t with
  | none => simp [hu] at hc
  | some d =>
   rw [hu] at hc
   cases d <;> simp only [reduceCtorEq, bf] at hc <;> subst hc
   case string => exact (HN hR hu hx rfl h).ux
   case slice e => exact (O1 hR hu hx rfl h).ux
   case map k e => exact (HO hR hu hx rfl h).ux
   case array k e =>
    simp only [aB, bf, R1.val.injEq] at h;obtain ⟨rfl, rfl⟩ := h
    exact Good.still (s := Builtin.len_ #[t] ty #[_]) hR (by simp [Builtin.len_, run_underlying hu, goInt]) (.int _ _)
 ·-- cap
  rename_i t x
  cases hv with
  | cons hx hn =>
  cases hn
  cases hu : P.underlying t with
  | none => simp [hu] at hc
  | some d =>
   rw [hu] at hc
   cases d <;> simp only [reduceCtorEq, bf] at hc
   subst hc;simp only [aB] at h;generalize rP : fr.eval x = e at hx h
   cases hx <;> simp only [reduceCtorEq, bf, R1.val.injEq] at h
   all_goals
    obtain ⟨rfl, rfl⟩ := h
    exact Good.still (s := Builtin.cap_ #[t] ty #[_]) hR (by simp [Builtin.cap_, run_underlying hu, goInt]) (.int _ _)
 ·-- max
  cases hc
  simp only [aB] at h;obtain ⟨h1, rfl⟩ := fR h
  obtain ⟨v', r1, r2⟩ := OW (P := P) (w := w) hv h1 ⟨ts⟩ ty
  exact Good.still (s := Builtin.max_ ⟨ts⟩ ty ⟨FB⟩) hR r2 r1
 ·cases hc
  simp only [aB] at h;obtain ⟨h1, rfl⟩ := fR h
  obtain ⟨v', r1, r2⟩ := OU (P := P) (w := w) hv h1 ⟨ts⟩ ty
  exact Good.still (s := Builtin.min_ ⟨ts⟩ ty ⟨FB⟩) hR r2 r1
 ·-- append
  rename_i t u s x
  cases hv with
  | cons hs hn =>
  cases hn with
  | cons hx hn =>
  cases hn
  obtain ⟨e, he, hc⟩ := Option.bind_eq_some_iff.1 hc
  obtain ⟨_, jx, hc⟩ := Option.bind_eq_some_iff.1 hc
  obtain ⟨i, hi, hc⟩ := Option.bind_eq_some_iff.1 hc
  obtain ⟨z, hz, hc⟩ := Option.bind_eq_some_iff.1 hc
  obtain ⟨_, hq, hc⟩ := Option.bind_eq_some_iff.1 hc
  cases GC : z.length.beq i.size <;> simp only [GC, cond_true, cond_false, reduceCtorEq] at hq
  cases hb : i.bytes.ble 65536 <;> simp only [hb, cond_true, cond_false, reduceCtorEq, bf] at hc
  subst hc;have ht : P.underlying t = some (.slice e) := by
   unfold Mx at he
   split at he
   ·cases he; assumption
   ·cases he
  have GF : ∃ du, P.underlying u = some du /\ ((∃ v, du = .slice v) \/ du = .string) := by
   unfold T8 at jx
   split at jx
   ·exact ⟨_, by assumption, .inl ⟨_, rfl⟩⟩
   ·exact ⟨_, by assumption, .inr rfl⟩
   ·cases jx
  obtain ⟨du, hu, GF⟩ := GF
  simp only [aB] at h;have ab2 := Ix (P := P) hR ht hu GF hi hz (aS GC) (qS hb) hs hx (lH h)
  obtain ⟨ρ', w', v', r1, r2⟩ := ab2
  exact (show Ai P (Builtin.append_ #[t, u] ty #[_, _]) base ρ m w v m' from ⟨ρ', w', v', r1, r2⟩).ux
 ·-- copy
  rename_i t u s x
  cases hv with
  | cons hs hn =>
  cases hn with
  | cons hx hn =>
  cases hn
  cases ht : P.underlying t with
  | none => simp [ht] at hc
  | some dt =>
   rw [ht] at hc
   cases dt <;> simp only [reduceCtorEq] at hc
   rename_i e
   cases hz : gh P e with
   | none => simp [hz] at hc
   | some k =>
    simp only [hz, bf] at hc;subst hc;simp only [aB] at h;obtain ⟨ρ', w', v', r1, r2⟩ := L4 (P := P) (u := u) hR ht hz hs hx (lH h)
    exact (show Ai P (Builtin.copy_ #[t, u] ty #[_, _]) base ρ m w v m' from ⟨ρ', w', v', r1, r2⟩).ux
 ·-- delete
  rename_i t u s x
  cases hv with
  | cons hs hn =>
  cases hn with
  | cons hx hn =>
  cases hn
  cases ht : P.underlying t with
  | none => simp [ht] at hc
  | some dt =>
   rw [ht] at hc
   cases dt <;> simp only [reduceCtorEq] at hc
   rename_i kt e
   obtain ⟨c, hk, rfl⟩ := ag hc
   exact (Ii (P := P) (u := u) hR ht hk hs hx rfl rfl ty h).ux
 ·cases hc
theorem Good.Ej {v : EV} {s : Sem Value} (hR : R base ρ m w) (h : ∃ v', VR ρ v v' /\ s.run P w = .ok v' w) : Good base ρ m w v m ((do pure (Next.value (<- s)) : Sem Next).run P w) :=
 let ⟨_, h1, h2⟩ := h; Good.still hR h2 h1
theorem jX {t e : TypeId} (h : uG P t = some e) : P.underlying t = some (.slice e) := by
 unfold uG at h; split at h <;> cases h; assumption
theorem vA {t : TypeId} {q : Nat × TypeId} (h : Az P t = some q) : P.underlying t = some (.array q.1 q.2) := by
 unfold Az at h; split at h <;> cases h; assumption
theorem xA {t : TypeId} {fs : Array Field} (h : yi P t = some fs) : P.underlying t = some (.struct fs) := by
 unfold yi at h; split at h <;> cases h; assumption
theorem yj {t : TypeId} {q : TypeId × TypeId} (h : KM P t = some q) : P.underlying t = some (.map q.1 q.2) := by
 unfold KM at h; split at h <;> cases h; assumption
theorem kL {t : TypeId} {u : Unit} (h : pP P t = some u) : P.underlying t = some .string := by
 unfold pP at h; split at h <;> cases h; assumption
theorem BZ {t : TypeId} {k : IntKind} (h : P6 P t = some k) : P.underlying t = some (.int k) := by
 unfold P6 at h; split at h <;> cases h; assumption
theorem Om {t : TypeId} {u : Unit} (h : KN P t = some u) : ∃ ms, P.underlying t = some (.interface ms) := by
 unfold KN at h; split at h <;> cases h; exact ⟨_, by assumption⟩
theorem Ay {t : TypeId} {u : Unit} (h : DT P t = some u) : ∃ d, P.underlying t = some d /\ ∀ ms, d ≠ .interface ms := by
 unfold DT at h
 cases hu : P.underlying t with
 | none => rw [hu] at h; cases h
 | some d => rw [hu] at h; refine ⟨d, rfl, fun ms e => ?_⟩; subst e; cases h
theorem jc {b : Bool} {u : Unit} (h : AK b = some u) : b = true := by
 unfold AK at h; cases b <;> simp at h; rfl
theorem fW {x y : Option lD} {r : lD} (h : So x y = some r) : x = some r \/ y = some r := by
 unfold So at h
 cases x with
 | none => exact .inr h
 | some z => exact .inl h
theorem af {α β : Type} {x : Option α} {f : α -> Option β} {y : β} (h : x.bind f = some y) : ∃ a, x = some a /\ f a = some y := Option.bind_eq_some_iff.1 h
theorem Eh {o : Oper} {io : lD} (hc : UK P G o = some io) (hG : jr G ρ) (hR : R base ρ m w) (hF : FR ρ n fr a) {v : EV} {m' : Mem} (h : aB fr.eval io m = some (.val v m')) :
  Good base ρ m w v m' ((execOp a.eval o).run P w) := by
 have E : ∀ {x : Operand} {y : aW}, fc G x = some y -> VR ρ (fr.eval y) (a.eval x) := fun h => ia hG hF h
 have EO : ∀ {x : Option Operand} {y : Option aW}, Kj G x = some y -> uc ρ (y.map fr.eval) (x.map a.eval) := fun h => Me hG hF h
 unfold UK at hc
 split at hc
 case h_1 x ho =>
  obtain ⟨y, hy, rfl⟩ := ag hc
  simp only [aB, bf, R1.val.injEq] at h;obtain ⟨rfl, rfl⟩ := h
  exact ⟨ρ, w, a.eval x, .inl (by simp only [execOp, ho]; rfl), E hy, hR, .refl _ _ _⟩
 case h_2 x ho =>
  obtain ⟨y, hy, rfl⟩ := ag hc
  simp only [aB, bf, R1.val.injEq] at h;obtain ⟨rfl, rfl⟩ := h
  exact ⟨ρ, w, a.eval x, .inl (by simp only [execOp, ho]; rfl), E hy, hR, .refl _ _ _⟩
 case h_3 c x y ho =>
  obtain ⟨c', h1, hc⟩ := af hc
  obtain ⟨x', h2, hc⟩ := af hc
  obtain ⟨y', h3, rfl⟩ := ag hc
  have LS := E h1
  simp only [aB] at h;generalize fr.eval c' = cv at LS h
  generalize u5 : a.eval c = cc at LS
  cases LS <;> simp only [reduceCtorEq, bf, R1.val.injEq] at h
  rename_i b
  obtain ⟨rfl, rfl⟩ := h
  refine ⟨ρ, w, if b then a.eval x else a.eval y, .inl (by simp only [execOp, ho, u5, asBool, Sem.run_bind, Sem.run_pure, Result.andThen_ok]), ?_, hR, .refl _ _ _⟩
  cases b
  ·exact E h3
  ·exact E h2
 case h_4 e ho =>
  obtain ⟨z, hz, rfl⟩ := ag hc
  simp only [aB, bf, R1.val.injEq] at h;obtain ⟨rfl, rfl⟩ := h
  simp only [execOp, ho];exact ((Ff hR.n hz).runs hR).ux
 case h_5 e x ho =>
  obtain ⟨y, hy, rfl⟩ := ag hc
  simp only [aB] at h
  cases mg : (fr.eval y).cells with
  | none => simp [mg] at h
  | some cs =>
   simp only [mg, bf, R1.val.injEq] at h;obtain ⟨rfl, rfl⟩ := h
   simp only [execOp, ho];exact ((Km hR.n (E hy) mg).runs hR).ux
 case h_6 t parts ho =>
  obtain ⟨z, hz, hc⟩ := af hc
  obtain ⟨zv, z1, z2, z3⟩ := nf (ρ := ρ) hz
  rcases fW hc with hc | hc
  ·obtain ⟨fs, hu, hc⟩ := af hc
   obtain ⟨_, hall, hc⟩ := af hc
   obtain ⟨ps, hp, rfl⟩ := ag hc
   have hu := xA hu
   have hall := jc hall
   simp only [aB] at h;have hE := fR (x := (fB z (ps.map fun p => (p.1, p.2.1, fr.eval p.2.2))).map .agg) h
   obtain ⟨V8, V7⟩ := hE
   subst V7;obtain ⟨ds, hf, Yj⟩ := j8.1 V8
   subst Yj;obtain ⟨p1, p2⟩ := Bl hG hF hp
   have Tj : ∀ (l : List Field) (w : World), (∀ f ∈ l, ∃ s, gh P f.type = some s) -> (l.mapM fun (f : Field) => (do pure (f.offset, <- sizeOf f.type) : Sem (Nat × Nat))).run P w = .ok (l.map fun f => (f.offset, (gh P f.type).getD 0)) w := by
    intro l w hl
    induction l with
    | nil => rfl
    | cons f l ih =>
     obtain ⟨s, hs⟩ := hl f (by simp)
     simp only [List.mapM_cons, Sem.run_bind, b8 hs, Result.andThen_ok, Sem.run_pure, ih (fun g hg => hl g (by simp [hg])), List.map_cons, hs, Option.getD_some]
   have IN := Tj fs.toList w (fun f hf => Option.isSome_iff_exists.1 (List.all_eq_true.1 hall f hf))
   obtain ⟨vj, f1, f2, f3, _⟩ := xT (ρ := ρ) (place := fun i => (fs.toList.map fun f => (f.offset, (gh P f.type).getD 0)).toArray[i]?) _ (parts.toList.map fun p => (p.1, a.eval p.2)) z zv.cells z2 z3 p1 (fun i p q hp' GC => by
    obtain ⟨g1, g2⟩ := p2 i p q hp' GC
    refine ⟨?_, g2⟩
    obtain ⟨f, sk, BP⟩ := af g1
    obtain ⟨s, rN, Sv⟩ := ag BP
    rw [<- Sv];have : fs.toList[q.1]? = some f := by simpa using sk
    simp [sk, rN]) ds hf
   have j0 : (Instr.build t (parts.map fun (i, x) => (i, a.eval x))).run P w = .ok (.agg vj) w := by
    simp only [Instr.build, Sem.run_bind, z1, Result.andThen_ok, run_underlying hu, Array.toList_map];rw [show (fs.mapM fun f => (do pure (f.offset, <- sizeOf f.type) : Sem (Nat × Nat))).run P w = .ok (fs.toList.map fun f => (f.offset, (gh P f.type).getD 0)).toArray w by
     rw [Array.mapM_eq_mapM_toList, Sem.run_map, IN]; rfl]
    simp only [Result.andThen_ok, f1, Sem.run_pure]
   simp only [execOp, ho];exact Good.still hR j0 (.agg f2 f3)
  ·obtain ⟨q, hu, hc⟩ := af hc
   obtain ⟨s, hs, hc⟩ := af hc
   obtain ⟨ps, hp, rfl⟩ := ag hc
   have hu := vA hu
   simp only [aB] at h;have hE := fR (x := (fB z (ps.map fun p => (p.1, p.2.1, fr.eval p.2.2))).map .agg) h
   obtain ⟨V8, V7⟩ := hE
   subst V7;obtain ⟨ds, hf, Yj⟩ := j8.1 V8
   subst Yj;obtain ⟨p1, p2⟩ := Bl hG hF hp
   obtain ⟨vj, f1, f2, f3, _⟩ := xT (ρ := ρ) (place := fun i => some (i * s, s)) _ (parts.toList.map fun p => (p.1, a.eval p.2)) z zv.cells z2 z3 p1 (fun i p q hp' GC => p2 i p q hp' GC) ds hf
   have j0 : (Instr.build t (parts.map fun (i, x) => (i, a.eval x))).run P w = .ok (.agg vj) w := by
    simp only [Instr.build, Sem.run_bind, z1, Result.andThen_ok, run_underlying hu, Array.toList_map, b8 hs, f1, Sem.run_pure]
   simp only [execOp, ho];exact Good.still hR j0 (.agg f2 f3)
 case h_7 t len parts ho =>
  obtain ⟨e, hu, hc⟩ := af hc
  obtain ⟨s, hs, hc⟩ := af hc
  obtain ⟨z, hz, hc⟩ := af hc
  obtain ⟨ps, hp, hc⟩ := af hc
  obtain ⟨_, HS, hc⟩ := af hc
  obtain ⟨_, hl, rfl⟩ := ag hc
  have hu := jX hu
  simp only [aB] at h
  cases mg : fB (eD len z) (ps.map fun p => (p.1 * s, s, fr.eval p.2)) with
  | none => simp [mg] at h
  | some cs =>
   simp only [mg, bf, R1.val.injEq] at h;obtain ⟨rfl, rfl⟩ := h
   obtain ⟨p1, p2⟩ := mapM_some _ hp
   have hb := BA (P := P) hR.n hu hs hz (aS (jc HS)) (qS (jc hl)) (qs := parts.toList.map fun p => (p.1, a.eval p.2)) (by simpa using p1.symm) (fun i p q hp' GC => by
    rw [List.getElem?_map] at hp' GC
    obtain ⟨p0, LO, rfl⟩ := j8.1 hp'
    obtain ⟨q0, XR, rfl⟩ := j8.1 GC
    obtain ⟨x, hx, hxp⟩ := ag (p2 i q0 p0 XR LO)
    subst hxp;exact ⟨⟨rfl, rfl⟩, E hx⟩) mg
   simp only [execOp, ho];have : (parts.map fun (i, x) => (i, a.eval x)) = (⟨parts.toList.map fun p => (p.1, a.eval p.2)⟩ : Array (Nat × Value)) := by apply Array.ext'; simp
   rw [this];exact (hb.runs hR).ux
 case h_8 t x ho =>
  obtain ⟨g, hg, hc⟩ := af hc
  obtain ⟨y, hy, rfl⟩ := ag hc
  simp only [aB] at h;obtain ⟨h1, h2⟩ := fR h
  subst h2;obtain ⟨ad, v', e1, e2, e3⟩ := xu (P := P) hR hg (E hy) h1
  simp only [execOp, ho];refine Good.still (s := Instr.loadAt t (a.eval x)) hR (v' := v') ?_ e3
  rw [e1];simp only [Instr.loadAt, Instr.sureAddr, Sem.run_bind, Sem.run_pure, Result.andThen_ok, e2]
 case h_9 t x y ho =>
  obtain ⟨s, hs, hc⟩ := af hc
  obtain ⟨x', hx, hc⟩ := af hc
  obtain ⟨y', hy, rfl⟩ := ag hc
  simp only [aB] at h;obtain ⟨h1, rfl⟩ := SY h
  have uf := E hx
  have Fw := E hy
  unfold Mem.store at h1
  cases Te : fr.eval x' <;> simp only [Te, reduceCtorEq] at h1
  rename_i b off
  cases mg : (fr.eval y').cells with
  | none => simp [mg] at h1
  | some vs =>
   simp only [mg] at h1
   cases hl : vs.length.beq s <;> simp only [hl, cond_true, cond_false, reduceCtorEq] at h1
   rw [Te] at uf;generalize HX : a.eval x = av at uf
   cases uf with
   | @ptr _ _ L hL =>
   obtain ⟨c1, c2⟩ := Fw.cells mg
   obtain ⟨w', r1, r2, r3⟩ := pO (P := P) hR hL c1 c2 h1
   refine ⟨ρ, w', undef, .inr ⟨?_, rfl⟩, .undef, r2, r3⟩
   have uh : (a.eval y).cells.size = s := by rw [<- aS hl, c1.length]; simp
   simp only [execOp, ho, HX, Instr.storeAt, Instr.sureAddr, storeVar, Sem.run_bind, Sem.run_pure, Result.andThen_ok, b8 hs];rw [if_neg (by simp [uh])]
   simp only [r1, Result.andThen_ok]
 case h_10 x ho =>
  obtain ⟨y, hy, rfl⟩ := ag hc
  have Fw := E hy
  simp only [aB] at h;generalize fr.eval y = e at Fw h
  generalize HX : a.eval x = av at Fw
  cases Fw <;> simp only [reduceCtorEq, bf, R1.val.injEq] at h
  case ptr b off L hL =>
   obtain ⟨rfl, rfl⟩ := h
   exact ⟨ρ, w, _, .inl (by simp only [execOp, ho, HX]; rfl), .ptr hL, hR, .refl _ _ _⟩
  case func f p q p' q' h1 h2 =>
   obtain ⟨rfl, rfl⟩ := h
   exact ⟨ρ, w, _, .inl (by simp only [execOp, ho, HX]; rfl), .func h1 h2, hR, .refl _ _ _⟩
  case iface t p p' h1 =>
   obtain ⟨rfl, rfl⟩ := h
   exact ⟨ρ, w, _, .inl (by simp only [execOp, ho, HX]; rfl), .iface h1, hR, .refl _ _ _⟩
 case h_11 op t x y yt ho =>
  obtain ⟨x', hx, hc⟩ := af hc
  obtain ⟨y', hy, hc⟩ := af hc
  have plain : op ≠ .eql -> op ≠ .neq -> some (lD.bin op x' y') = some io -> Good base ρ m w v m' ((execOp a.eval o).run P w) := by
   intro n1 n2 hc
   cases hc
   simp only [aB] at h;obtain ⟨h1, h2⟩ := fR h
   subst h2;obtain ⟨v', r1, r2⟩ := J4 (P := P) (w := w) (t := t) (E hx) (E hy) h1
   simp only [execOp, ho];refine Good.still hR (v' := v') ?_ r1
   rw [FZ n1 n2]
   simpa using r2
  have eqs : ∀ neg, ((op = .eql /\ neg = false) \/ (op = .neq /\ neg = true)) -> UL P neg t x' y' = some io -> Good base ρ m w v m' ((execOp a.eval o).run P w) := by
   intro neg lB hc
   unfold UL at hc;have : ∃ e, nH P 20 t = some e /\ io = .eq neg e x' y' /\ (P.eqGuardType P.depth t = false \/ ∃ ms, P.underlying t = some (.interface ms)) := by
    cases hg : P.eqGuardType P.depth t <;> simp only [hg, cond_true, cond_false] at hc
    ·obtain ⟨e, he, rfl⟩ := ag hc
     exact ⟨e, he, rfl, .inl rfl⟩
    ·obtain ⟨_, hi, rfl⟩ := ag hc
     obtain ⟨ms, Zc⟩ := Om hi
     exact ⟨.aG 7, by simp [nH, Zc], rfl, .inr ⟨ms, Zc⟩⟩
   obtain ⟨e, he, rfl, nR⟩ := this
   simp only [aB] at h;have hE := fR (x := (eL e (fr.eval x') (fr.eval y')).map fun b => .bool (neg ^^ b)) h
   obtain ⟨V8, V7⟩ := hE
   subst V7;obtain ⟨b, hb, Yj⟩ := j8.1 V8
   subst Yj;have hr := RU (P := P) (w := w) (ox := x) (oy := y) lB he nR (E hx) (E hy) hb
   simp only [execOp, ho];exact Good.still hR hr (.bool _)
  cases op <;> first
   | exact eqs false (.inl ⟨rfl, rfl⟩) hc
   | exact eqs true (.inr ⟨rfl, rfl⟩) hc
   | exact plain (by simp) (by simp) hc
 case h_12 op t x ho =>
  obtain ⟨y, hy, rfl⟩ := ag hc
  simp only [aB] at h;obtain ⟨h1, h2⟩ := fR h
  subst h2;obtain ⟨v', r1, r2⟩ := LW (P := P) (w := w) (E hy) h1
  simp only [execOp, ho];exact Good.still hR r2 r1
 case h_13 s d x ho =>
  obtain ⟨y, hy, hc⟩ := af hc
  have Fw := E hy
  simp only [execOp, ho];rcases fW hc with hc | hc
  ·obtain ⟨_, hs, hc⟩ := af hc
   obtain ⟨k, hd, rfl⟩ := ag hc
   obtain ⟨ds, hs, _⟩ := Ay hs
   have hd := BZ hd
   simp only [aB] at h;have h1 := lH h
   generalize fr.eval y = e at Fw h1
   generalize a.eval x = av at Fw
   cases Fw <;> simp only [kY, reduceCtorEq, bf, eO] at h1
   obtain ⟨rfl, rfl⟩ := h1
   exact Good.still hR (RZ hs hd _ _) (.int _ _)
  rcases fW hc with hc | hc
  ·obtain ⟨_, hs, hc⟩ := af hc
   obtain ⟨_, hd, rfl⟩ := ag hc
   simp only [aB] at h;have h1 := lH h
   generalize fr.eval y = e at Fw h1
   generalize a.eval x = av at Fw
   cases Fw <;> simp only [kY, reduceCtorEq, bf, eO] at h1
   obtain ⟨rfl, rfl⟩ := h1
   exact Good.still hR (Pw (kL hs) (kL hd) _) (.str _)
  rcases fW hc with hc | hc
  ·obtain ⟨_, hs, hc⟩ := af hc
   obtain ⟨e, hd, hc⟩ := af hc
   obtain ⟨k, he, hc⟩ := af hc
   obtain ⟨_, hk, rfl⟩ := ag hc
   have hk : k = .u8 := by have := aS (jc hk); cases k <;> simp [bZ] at this; rfl
   subst hk;simp only [aB] at h;obtain ⟨B, rfl, hB⟩ := E4 (P := P) hR.n (kL hs) (jX hd) (BZ he) Fw (lH h)
   exact (hB.runs hR).ux
  ·obtain ⟨e, hs, hc⟩ := af hc
   obtain ⟨_, hd, hc⟩ := af hc
   obtain ⟨k, he, hc⟩ := af hc
   obtain ⟨_, hk, rfl⟩ := ag hc
   have hk : k = .u8 := by have := aS (jc hk); cases k <;> simp [bZ] at this; rfl
   subst hk;simp only [aB] at h;exact (KQ hR (jX hs) (BZ he) (kL hd) Fw (lH h)).ux
 case h_14 t x ho =>
  obtain ⟨_, hu, hc⟩ := af hc
  obtain ⟨y, hy, rfl⟩ := ag hc
  obtain ⟨d, hu, hd⟩ := Ay hu
  simp only [aB, bf, R1.val.injEq] at h;obtain ⟨rfl, rfl⟩ := h
  simp only [execOp, ho];refine Good.still (v' := .iface t (a.eval x)) hR ?_ (.iface (E hy))
  simp only [Instr.makeInterface, Sem.run_bind, run_underlying hu, Result.andThen_ok]
  cases d <;> first | rfl | exact absurd rfl (hd _)
 case h_15 f p c ho =>
  obtain ⟨p', hp, hc⟩ := af hc
  obtain ⟨c', u5, rfl⟩ := ag hc
  simp only [aB, bf, R1.val.injEq] at h;obtain ⟨rfl, rfl⟩ := h
  have h1 := nG hG hF hp
  have h2 := nG hG hF u5
  simp only [execOp, ho];refine Good.still (v' := .func (.func f) (p.map a.eval) (c.map a.eval)) hR rfl ?_
  have e1 : p.map a.eval = ⟨p.toList.map a.eval⟩ := by apply Array.ext'; simp
  have e2 : c.map a.eval = ⟨c.toList.map a.eval⟩ := by apply Array.ext'; simp
  rw [e1, e2];exact .func h1 h2
 case h_16 t ho =>
  obtain ⟨_, _, rfl⟩ := ag hc
  simp only [aB, bf, R1.val.injEq] at h;obtain ⟨rfl, rfl⟩ := h
  simp only [execOp, ho];have := ((s4 (P := P) hR.n).runs hR).ux
  simpa [Instr.makeMap] using this
 case h_17 t k z ho =>
  obtain ⟨q, hu, rfl⟩ := ag hc
  have hu := yj hu
  simp only [aB, bf, R1.val.injEq] at h;obtain ⟨rfl, rfl⟩ := h
  simp only [execOp, ho];have := ((s4 (P := P) hR.n).runs hR).ux
  simpa [Instr.makeMap, run_underlying hu, Act.eval, asInt, asIntOf] using this
 case h_18 t l c ho =>
  obtain ⟨e, hu, hc⟩ := af hc
  obtain ⟨i, hi, hc⟩ := af hc
  obtain ⟨z, hz, hc⟩ := af hc
  obtain ⟨l', hl, hc⟩ := af hc
  obtain ⟨c', u5, hc⟩ := af hc
  obtain ⟨_, HS, hc⟩ := af hc
  obtain ⟨_, hb, rfl⟩ := ag hc
  have xO := E hl
  have LS := E u5
  simp only [aB] at h;simp only [execOp, ho];generalize fr.eval l' = el at xO h
  generalize fr.eval c' = ec at LS h
  generalize a.eval l = al at xO
  generalize a.eval c = ac at LS
  cases xO <;> (try simp only [reduceCtorEq] at h)
  rename_i k1 n1
  cases k1 <;> (try simp only [reduceCtorEq] at h)
  cases n1 <;> (try simp only [reduceCtorEq] at h)
  rename_i ln
  cases LS <;> (try simp only [reduceCtorEq] at h)
  rename_i k2 n2
  cases k2 <;> (try simp only [reduceCtorEq] at h)
  cases n2 <;> (try simp only [reduceCtorEq] at h)
  rename_i cn
  cases h1 : ln.ble cn <;> simp only [h1, cond_true, cond_false, reduceCtorEq] at h
  cases h2 : cn.ble room <;> simp only [h2, cond_true, cond_false, reduceCtorEq, bf, R1.val.injEq] at h
  obtain ⟨rfl, rfl⟩ := h
  exact ((yY hR.n (jX hu) hi hz (aS (jc HS)) (qS (jc hb)) (qS h1) (qS h2)).runs hR).ux
 case h_19 t x lo hi mx ho =>
  obtain ⟨_, Pc, hc⟩ := af hc
  obtain ⟨x', hx, hc⟩ := af hc
  obtain ⟨Eo, qm, hc⟩ := af hc
  obtain ⟨xw, xk, hc⟩ := af hc
  obtain ⟨El, AS, hc⟩ := af hc
  have uf := E hx
  have xO := EO qm
  have WV := EO xk
  have XX := EO AS
  have Rs : (mx.map a.eval).isSome = true -> (hi.map a.eval).isSome = true := by
   have := jc Pc
   cases mx <;> cases hi <;> simp at this ⊢
  simp only [execOp, ho];rcases fW hc with hc | hc
  ·obtain ⟨q, hu, hc⟩ := af hc
   obtain ⟨s, hs, rfl⟩ := ag hc
   have hu := vA hu
   simp only [aB] at h;generalize fr.eval x' = e at uf h
   generalize a.eval x = av at uf
   cases uf <;> simp only [reduceCtorEq] at h
   rename_i b off L hL
   obtain ⟨h1, h2⟩ := fR h
   subst h2;obtain ⟨l, hh, t', r1, r2⟩ := Bh (P := P) (w := w) xO WV XX Rs hL (fy q.1) (o := L.off + off) (fun _ => rfl) false h1
   refine Good.still hR ?_ r2
   simp only [Instr.sliceAt, Sem.run_bind, run_underlying hu, Result.andThen_ok, Instr.sureAddr, Sem.run_pure, r1, b8 hs, EZ, Option.map_some]
   split <;> rfl
  rcases fW hc with hc | hc
  ·obtain ⟨el, hu, hc⟩ := af hc
   obtain ⟨s, hs, rfl⟩ := ag hc
   have hu := jX hu
   simp only [aB] at h;generalize fr.eval x' = e at uf h
   generalize a.eval x = av at uf
   cases uf <;> simp only [reduceCtorEq] at h
   case ae =>
    cases h1 : aw (El.map fr.eval) 0 0 with
    | none => simp [h1] at h
    | some t1 =>
    cases h2 : aw (xw.map fr.eval) 0 0 with
    | none => simp [h1, h2] at h
    | some t2 =>
    cases h3 : aw (Eo.map fr.eval) 0 0 with
    | none => simp [h1, h2, h3] at h
    | some t3 =>
    simp only [h1, h2, h3, bf, R1.val.injEq] at h;obtain ⟨rfl, rfl⟩ := h
    have z : ∀ {y : Option EV} {r : Nat}, aw y 0 0 = some r -> r = 0 := by
     intro y r hb
     unfold aw at hb
     split at hb
     ·cases hb; rfl
     ·rename_i i
      cases hq : i.ble 0 <;> simp only [hq, cond_true, cond_false, reduceCtorEq, bf] at hb
      have := qS hq
      omega
     ·cases hb
    have e1 := z h1; have e2 := z h2; have e3 := z h3
    subst e1 e2 e3
    obtain ⟨r, _⟩ := j5 (P := P) (w := w) xO WV XX Rs true (n := 0) rfl (t := 0) (h := 0) (l := 0) (c := 0) (by
     cases hm : El.map fr.eval with
     | none => exact .inl ⟨rfl, rfl⟩
     | some y => rw [hm] at h1; exact .inr ⟨0, h1, by simp⟩) h2 h3
    refine Good.still (v' := .slice none 0 0) hR ?_ .ae
    simp only [Instr.sliceAt, Instr.slice, Sem.run_bind, run_underlying hu, Result.andThen_ok, r, b8 hs, Sem.run_pure, if_true]
   case slice b off len c o L hL oQ Rr CN =>
    cases hm : m.get b with
    | dead => simp [hm] at h
    | map => simp [hm] at h
    | cells cs e1 el1 ro1 =>
    simp only [hm] at h
    cases hq : e1.beq s <;> simp only [hq, cond_true, cond_false, reduceCtorEq] at h
    obtain ⟨h1, h2⟩ := fR h
    subst h2;obtain ⟨l, hh, t', r1, r2⟩ := KW (P := P) (w := w) xO WV XX Rs hL oQ Rr CN (by rw [RQ hR hL hm, aS hq]) true h1
    refine Good.still hR ?_ r2
    simp only [Instr.sliceAt, Instr.slice, Sem.run_bind, run_underlying hu, Result.andThen_ok, r1, b8 hs, Sem.run_pure, EZ]
   case gN b off a0 =>
    obtain ⟨h1, h2⟩ := fR h
    subst h2;obtain ⟨l, hh, t', r1, r2⟩ := I4 (P := P) (w := w) (a := a0) xO WV XX Rs true h1
    refine Good.still hR ?_ r2
    simp only [Instr.sliceAt, Instr.slice, Sem.run_bind, run_underlying hu, Result.andThen_ok, r1, b8 hs, Sem.run_pure, EZ]
   case fG b off len c o L hL oQ Rr =>
    obtain ⟨h1, h2⟩ := fR h
    subst h2;obtain ⟨l, hh, t', r1, r2⟩ := Bh (P := P) (w := w) xO WV XX Rs hL oQ Rr true h1
    refine Good.still hR ?_ r2
    simp only [Instr.sliceAt, Instr.slice, Sem.run_bind, run_underlying hu, Result.andThen_ok, r1, b8 hs, Sem.run_pure, EZ]
  ·obtain ⟨_, hu, hc⟩ := af hc
   obtain ⟨_, Pb, rfl⟩ := ag hc
   have hu := kL hu
   have Pb := jc Pb
   have : mx = none := by
    cases mx with
    | none => rfl
    | some y =>
     simp [Kj] at AS
     obtain ⟨z, hz, rfl⟩ := AS
     simp at Pb
   subst this;simp only [aB] at h;generalize fr.eval x' = e at uf h
   generalize a.eval x = av at uf
   cases uf <;> simp only [reduceCtorEq] at h
   rename_i s'
   cases h1 : aw (xw.map fr.eval) s'.data.toList.length s'.data.toList.length with
   | none => simp only [h1, reduceCtorEq] at h
   | some hh =>
   cases h2 : aw (Eo.map fr.eval) 0 hh with
   | none => simp only [h1, h2, reduceCtorEq] at h
   | some l =>
    simp only [h1, h2, bf, R1.val.injEq] at h;obtain ⟨rfl, rfl⟩ := h
    obtain ⟨v', r1, r2⟩ := I3 (P := P) (w := w) hu xO WV h1 h2
    exact Good.still hR r2 r1
 case h_20 s x f ho =>
  obtain ⟨fs, hu, hc⟩ := af hc
  obtain ⟨x', hx, hc⟩ := af hc
  obtain ⟨fl, hf, hc⟩ := af hc
  obtain ⟨sz, hs, hc⟩ := af hc
  obtain ⟨_, h1, rfl⟩ := ag hc
  have h1 := qS (jc h1)
  obtain ⟨k, rfl⟩ : ∃ k, sz = k + 1 := ⟨sz - 1, by omega⟩
  have uf := E hx
  simp only [aB] at h;simp only [execOp, ho];generalize fr.eval x' = e at uf h
  generalize a.eval x = av at uf
  cases uf <;> simp only [reduceCtorEq, bf, R1.val.injEq] at h
  rename_i hL
  obtain ⟨rfl, rfl⟩ := h
  exact Good.Ej hR (J1 (xA hu) hf hs (.ptr hL))
 case h_21 t x f ho =>
  obtain ⟨fs, hu, hc⟩ := af hc
  obtain ⟨x', hx, hc⟩ := af hc
  obtain ⟨fl, hf, hc⟩ := af hc
  obtain ⟨g, hg, rfl⟩ := ag hc
  have uf := E hx
  simp only [aB] at h;simp only [execOp, ho]
  cases he : fr.eval x' <;> simp only [he, reduceCtorEq] at h
  rename_i cs
  rw [he] at uf;obtain ⟨h1, h2⟩ := fR h
  subst h2;exact Good.Ej hR (JZ (xA hu) hf hg uf h1)
 case h_22 t x i ho =>
  obtain ⟨x', hx, hc⟩ := af hc
  obtain ⟨i', hi, hc⟩ := af hc
  have uf := E hx
  have X3 := E hi
  simp only [execOp, ho];rcases fW hc with hc | hc
  ·obtain ⟨e, hu, hc⟩ := af hc
   obtain ⟨s, hs, rfl⟩ := ag hc
   simp only [aB] at h
   cases he : fr.eval x' <;> simp only [he, reduceCtorEq] at h
   case fz => rw [he] at uf; cases uf
   rename_i b off len cap
   rw [he] at uf
   cases hj : idx len (fr.eval i') with
   | none => simp [hj] at h
   | some j =>
    simp only [hj, bf, R1.val.injEq] at h;obtain ⟨rfl, rfl⟩ := h
    exact Good.Ej hR (JI (jX hu) hs uf X3 hj)
  ·obtain ⟨q, hu, hc⟩ := af hc
   obtain ⟨s, hs, rfl⟩ := ag hc
   simp only [aB] at h
   cases he : fr.eval x' <;> simp only [he, reduceCtorEq] at h
   rename_i b off
   rw [he] at uf
   cases hj : idx q.1 (fr.eval i') with
   | none => simp [hj] at h
   | some j =>
    simp only [hj, bf, R1.val.injEq] at h;obtain ⟨rfl, rfl⟩ := h
    exact Good.Ej hR (EC (vA hu) hs uf X3 hj)
 case h_23 t x i ho =>
  obtain ⟨x', hx, hc⟩ := af hc
  obtain ⟨i', hi, hc⟩ := af hc
  have uf := E hx
  have X3 := E hi
  simp only [execOp, ho];rcases fW hc with hc | hc
  ·obtain ⟨_, hu, rfl⟩ := ag hc
   simp only [aB] at h;generalize fr.eval x' = e at uf h
   generalize a.eval x = av at uf
   cases uf <;> simp only [reduceCtorEq] at h
   rename_i s'
   cases hj : idx s'.data.toList.length (fr.eval i') with
   | none => simp only [hj, reduceCtorEq] at h
   | some j =>
    simp only [hj] at h
    cases hcj : s'.data.toList[j]? with
    | none => simp only [hcj, reduceCtorEq] at h
    | some c =>
     simp only [hcj, bf, R1.val.injEq] at h;obtain ⟨rfl, rfl⟩ := h
     exact Good.still hR (HQ (kL hu) X3 hj hcj) (.int _ _)
  ·obtain ⟨q, hu, hc⟩ := af hc
   obtain ⟨s, hs, hc⟩ := af hc
   obtain ⟨g, hg, rfl⟩ := ag hc
   simp only [aB] at h
   cases he : fr.eval x' <;> simp only [he, reduceCtorEq] at h
   rename_i cs
   rw [he] at uf
   cases hj : idx q.1 (fr.eval i') with
   | none => simp [hj] at h
   | some j =>
    simp only [hj] at h;obtain ⟨h1, h2⟩ := fR h
    subst h2;exact Good.Ej hR (HR (vA hu) hs hg uf X3 hj h1)
 case h_24 t mp k ok ho =>
  obtain ⟨q, hu, hc⟩ := af hc
  obtain ⟨c, hk, hc⟩ := af hc
  obtain ⟨z, hz, hc⟩ := af hc
  obtain ⟨m1, hm, hc⟩ := af hc
  obtain ⟨k1, Sx, rfl⟩ := ag hc
  simp only [execOp, ho];exact (HJ hR (yj hu) hk hz (E hm) (E Sx) rfl rfl h).ux
 case h_25 t mp k x ho =>
  obtain ⟨q, hu, hc⟩ := af hc
  obtain ⟨c, hk, hc⟩ := af hc
  obtain ⟨m1, hm, hc⟩ := af hc
  obtain ⟨k1, Sx, hc⟩ := af hc
  obtain ⟨x1, hx, rfl⟩ := ag hc
  obtain ⟨w', r1, rfl, r2, r3⟩ := y0 (P := P) hR (yj hu) hk (E hm) (E Sx) (E hx) rfl rfl rfl h
  exact ⟨ρ, w', undef, .inr ⟨by simp only [execOp, ho, Sem.run_bind, r1, Result.andThen_ok, Sem.run_pure], rfl⟩, .undef, r2, r3⟩
 case h_26 t mp k x ho =>
  obtain ⟨q, hu, hc⟩ := af hc
  obtain ⟨c, hk, hc⟩ := af hc
  obtain ⟨m1, hm, hc⟩ := af hc
  obtain ⟨k1, Sx, hc⟩ := af hc
  obtain ⟨x1, hx, rfl⟩ := ag hc
  obtain ⟨w', r1, rfl, r2, r3⟩ := y0 (P := P) hR (yj hu) hk (E hm) (E Sx) (E hx) rfl rfl rfl h
  exact ⟨ρ, w', undef, .inr ⟨by simp only [execOp, ho, Sem.run_bind, r1, Result.andThen_ok, Sem.run_pure], rfl⟩, .undef, r2, r3⟩
 case h_27 x xt t ho =>
  obtain ⟨_, hu, hc⟩ := af hc
  obtain ⟨y, hy, rfl⟩ := ag hc
  obtain ⟨d, hu, hd⟩ := Ay hu
  have Fw := E hy
  simp only [aB] at h;simp only [execOp, ho];generalize fr.eval y = e at Fw h
  generalize a.eval x = av at Fw
  cases Fw <;> simp only [reduceCtorEq] at h
  rename_i u v0 v1 hv
  cases hq : t.beq u <;> simp only [hq, cond_true, cond_false, reduceCtorEq, bf, R1.val.injEq] at h
  obtain ⟨rfl, rfl⟩ := h
  obtain rfl := aS hq
  refine Good.still hR ?_ hv
  simp only [Instr.typeAssert, Sem.run_bind, run_underlying hu, Result.andThen_ok]
  cases d <;> first | (exact absurd rfl (hd _)) | simp
 case h_28 x i ho =>
  obtain ⟨y, hy, rfl⟩ := ag hc
  have Fw := E hy
  simp only [aB] at h;simp only [execOp, ho];generalize fr.eval y = e at Fw h
  generalize a.eval x = av at Fw
  cases Fw <;> simp only [reduceCtorEq] at h
  rename_i vs uE yd
  obtain ⟨h1, h2⟩ := fR h
  subst h2;obtain ⟨v', g1, g2⟩ := yd.get i v h1
  refine Good.still hR ?_ g2
  simp [Instr.extract, g1]
 case h_29 c ho =>
  obtain ⟨ys, Rh, hc⟩ := af hc
  split at hc
  ·rename_i b hb
   rw [Kl ho hb];have hv := nG hG hF Rh
   have e1 : c.args.map a.eval = ⟨c.args.toList.map a.eval⟩ := by apply Array.ext'; simp
   rw [e1];exact F4 (ts := c.argTypes.toList) hR hv hc _ _ h
  ·cases hc
 case h_30 => cases hc
theorem MN {o : Oper} {f : Operand} {xs : Array Operand} {ts : Array TypeId} (ho : o.op = .call ⟨.value f, xs, ts⟩) {f' : aW} {ys : List aW} (hf : fc G f = some f') (Rh : Ae G xs.toList = some ys) (hG : jr G ρ) (hF : FR ρ n fr a) {g : Nat} {x y : List EV} (he : fr.eval f' = .func g x y) :
  ∃ ay : Array Value, (execOp a.eval o).run P w = (callFunc g ay).run P w /\ fx ρ (x ++ ys.map fr.eval ++ y) ay.toList := by
 have VQ := ia hG hF hf
 have hv := nG hG hF Rh
 rw [he] at VQ;generalize HX : a.eval f = av at VQ
 cases VQ with
 | @func _ _ _ x' y' hx hy =>
 refine ⟨⟨x' ++ xs.toList.map a.eval ++ y'⟩, ?_, (hx.append hv).append hy⟩
 simp only [execOp, ho, resolve, HX, Deferred.ofValue, Sem.run_bind, Sem.run_pure, Result.andThen_ok, invoke]
 congr 2
 apply Array.ext'
 simp
theorem Qz {o : Oper} {x : Operand} (ho : o.op = .panic x) {x' : aW} (hx : fc G x = some x') (hG : jr G ρ) (hF : FR ρ n fr a) {t : Nat} {v : EV} (he : fr.eval x' = .iface t v) :
  ∃ v', (execOp a.eval o).run P w = .halt (.panic v') w /\ VR ρ (.iface t v) v' := by
 have hv := ia hG hF hx
 rw [he] at hv;generalize HX : a.eval x = av at hv
 cases hv with
 | iface h => exact ⟨_, by simp [execOp, ho, HX, Instr.panic], .iface h⟩
end
end
section
def ad4 (ρ : ev) (e : Nat × List EV) (d : Deferred) : Prop := ∃ c' : Array Value, d.target = .fn (.func e.1) c' /\ fx ρ e.2 (d.args.toList ++ c'.toList)
inductive xz (ρ : ev) : List (Nat × List EV) -> List Deferred -> Prop
 | nil : xz ρ [] []
 | cons {e : Nat × List EV} {d : Deferred} {es : List (Nat × List EV)} {ds : List Deferred} (h : ad4 ρ e d) (hs : xz ρ es ds) : xz ρ (e :: es) (d :: ds)
theorem xz.ext {ρ ρ' : ev} (e : Ext ρ ρ') {es : List (Nat × List EV)} {ds : List Deferred} (h : xz ρ es ds) : xz ρ' es ds := by
 induction h with
 | nil => exact .nil
 | cons h _ ih => obtain ⟨c', h1, h2⟩ := h; exact .cons ⟨c', h1, h2.ext e⟩ ih
structure BV (ρ : ev) (n : Nat) (fr : Fr) (a : Act) : Prop where
 tm : FR ρ n fr a
 F2 : xz ρ fr.defers a.defers
theorem BV.ext {ρ ρ' : ev} {n : Nat} {fr : Fr} {a : Act} (e : Ext ρ ρ') (h : BV ρ n fr a) : BV ρ' n fr a := ⟨h.tm.ext e, h.F2.ext e⟩
theorem put_defers (fr : Fr) (d : Option Nat) (v : EV) : (fr.put d v).defers = fr.defers := by cases d <;> rfl
theorem I9 (a : Act) (d : Option Nat) (v : Value) : (a.put d v).defers = a.defers := by cases d <;> rfl
theorem BV.put {ρ : ev} {n : Nat} {fr : Fr} {a : Act} (h : BV ρ n fr a) {d : Option Nat} (hd : ∀ x, d = some x -> x < n) {v : EV} {v' : Value} (hv : VR ρ v v') : BV ρ n (fr.put d v) (a.put d v') :=
 ⟨h.tm.put hd hv, by rw [put_defers, I9]; exact h.F2⟩
def Reach (base n : Nat) (ρ : ev) (m : Mem) (w : World) (out : Out) (e : Exit) (a' : Act) (w' : World) : Prop :=
 match out with
 | .norm fr' m' => e = .normal /\ ∃ ρ', R base ρ' m' w' /\ Step ρ m w ρ' m' w' /\ BV ρ' n fr' a'
 | .exit id fr' m' => e = .exit id /\ ∃ ρ', R base ρ' m' w' /\ Step ρ m w ρ' m' w' /\ BV ρ' n fr' a'
 | .ret fr' m' => e = .ret /\ ∃ ρ', R base ρ' m' w' /\ Step ρ m w ρ' m' w' /\ BV ρ' n fr' a'
 | .gI v fr' m' => ∃ ρ' v', e = .panic [{ v := v', recovered := false }] /\ VR ρ' v v' /\ R base ρ' m' w' /\ Step ρ m w ρ' m' w' /\ BV ρ' n fr' a'
theorem Reach.after {base n : Nat} {ρ ρ1 : ev} {m m1 : Mem} {w w1 : World} (s : Step ρ m w ρ1 m1 w1) {out : Out} {e : Exit} {a' : Act} {w' : World} (h : Reach base n ρ1 m1 w1 out e a' w') : Reach base n ρ m w out e a' w' := by
 cases out with
 | norm fr' m' => obtain ⟨he, ρ', h1, h2, h3⟩ := h; exact ⟨he, ρ', h1, s.trans h2, h3⟩
 | exit id fr' m' => obtain ⟨he, ρ', h1, h2, h3⟩ := h; exact ⟨he, ρ', h1, s.trans h2, h3⟩
 | ret fr' m' => obtain ⟨he, ρ', h1, h2, h3⟩ := h; exact ⟨he, ρ', h1, s.trans h2, h3⟩
 | gI v fr' m' => obtain ⟨ρ', v', he, h0, h1, h2, h3⟩ := h; exact ⟨ρ', v', he, h0, h1, s.trans h2, h3⟩
def nK (base : Nat) (ρ : ev) (m : Mem) (w : World) (fin : Fin) (e : Ending) (w' : World) : Prop :=
 match fin with
 | .ret v m' => ∃ ρ' v', e = .returned v' /\ VR ρ' v v' /\ R base ρ' m' w' /\ Step ρ m w ρ' m' w'
 | .gI v m' => ∃ ρ' v', e = .panicked [{ v := v', recovered := false }] /\ VR ρ' v v' /\ R base ρ' m' w' /\ Step ρ m w ρ' m' w'
def pG (P : Program) (G : List Nat) (call : Call) : Prop :=
 ∀ f args m fin, call f args m = some fin -> ∀ base ρ w (ay : Array Value), R base ρ m w -> jr G ρ -> fx ρ args ay.toList ->
  ((callFunc f ay).run P w = .ok (.enter f ay) w /\ Calls P f ay w (nK base ρ m w fin)) \/
  (∃ v v', fin = .ret v m /\ (callFunc f ay).run P w = .ok (.value v') w /\ VR ρ v v')
section
variable {P : Program} {G : List Nat} {n : Nat} {call : Call}
theorem Kk {ops : Array Oper} {o : Oper} {io : ba} (h : ul P G n ops o = some io) : E2 P G o = some io.op /\ io.dst = o.dst /\ (∀ x, o.dst = some x -> x < n) /\
  ((o.guard = none /\ io.guard = none) \/ (∃ j w t, o.guard = some (j, w) /\ (ops[j]?).bind (·.dst) = some t /\ io.guard = some (t, w))) := by
 unfold ul at h
 cases hx : E2 P G o with
 | none => simp [hx] at h
 | some op =>
  simp only [hx] at h
  cases hb : UI n o.dst with
  | false => simp [hb] at h
  | true =>
  simp only [hb, cond_true] at h;have nB : ∀ x, o.dst = some x -> x < n := by
   intro x hx
   rw [hx] at hb;exact qS hb
  cases hg : o.guard with
  | none => simp only [hg, bf] at h; subst h; exact ⟨rfl, rfl, nB, .inl ⟨rfl, rfl⟩⟩
  | some jw =>
   obtain ⟨j, w⟩ := jw
   simp only [hg] at h
   cases ht : (ops[j]?).bind (·.dst) with
   | none => simp [ht] at h
   | some t => simp only [ht, bf] at h; subst h; exact ⟨rfl, rfl, nB, .inr ⟨j, w, t, rfl, ht, rfl⟩⟩
theorem mq {ρ : ev} {ops : Array Oper} {o : Oper} {io : ba} {fr : Fr} {a : Act} (hF : FR ρ n fr a)
  (hg : (o.guard = none /\ io.guard = none) \/ (∃ j w t, o.guard = some (j, w) /\ (ops[j]?).bind (·.dst) = some t /\ io.guard = some (t, w))) {b : Bool} (h : bh fr io.guard = some b) :
  Region.wanted o (yielded ops a.tmps) = b := by
 rcases hg with ⟨h1, h2⟩ | ⟨j, w, t, h1, h2, h3⟩
 ·rw [h2] at h; simp [bh] at h; subst h; simp [Region.wanted, h1]
 ·rw [h3] at h
  simp only [bh] at h
  cases hv : fr.get t <;> simp only [hv, reduceCtorEq, bf] at h
  case undef =>
   have ht := hF.tmp t
   rw [hv] at ht;generalize Su : a.tmps.getD t undef = tv at ht
   cases ht
   subst h;simp only [Region.wanted, h1, yielded, h2, Option.bind_some]
   cases hq : a.tmps[t]? with
   | none => rfl
   | some x =>
    rw [Array.getD_eq_getD_getElem?, hq] at Su;simp only [Option.getD_some] at Su;rw [Su]; rfl
  rename_i c
  have ht := hF.tmp t
  rw [hv] at ht;generalize Su : a.tmps.getD t undef = tv at ht
  cases ht
  simp only [Region.wanted, h1, yielded, h2, Option.bind_some];have : a.tmps[t]? = some (.bool c) := by
   rw [Array.getD_eq_getD_getElem?] at Su
   cases hq : a.tmps[t]? with
   | none => rw [hq] at Su; simp [undef] at Su
   | some x => rw [hq] at Su; simp at Su; rw [Su]
  rw [this];subst h;simp
theorem vo {o : Oper} {op : lD} (h : E2 P G o = some (.val op)) : UK P G o = some op := by
 unfold E2 at h
 split at h
 ·obtain ⟨_, _, h⟩ := af h; obtain ⟨_, _, h⟩ := ag h; cases h
 ·obtain ⟨_, _, h⟩ := af h; obtain ⟨_, _, h⟩ := ag h; cases h
 ·obtain ⟨_, _, h⟩ := ag h; cases h
 ·obtain ⟨_, hh, h⟩ := ag h; cases h; exact hh
theorem GU {o : Oper} {f : aW} {ys : List aW} (h : E2 P G o = some (.call f ys)) : ∃ f0 xs ts, o.op = .call ⟨.value f0, xs, ts⟩ /\ fc G f0 = some f /\ Ae G xs.toList = some ys := by
 unfold E2 at h
 split at h
 ·rename_i f0 xs ts ho
  obtain ⟨_, h1, h⟩ := af h; obtain ⟨_, h2, h⟩ := ag h; cases h
  exact ⟨f0, xs, ts, ho, h2, h1⟩
 ·obtain ⟨_, _, h⟩ := af h; obtain ⟨_, _, h⟩ := ag h; cases h
 ·obtain ⟨_, _, h⟩ := ag h; cases h
 ·obtain ⟨_, hh, h⟩ := ag h; cases h
theorem Mb {o : Oper} {f : aW} {ys : List aW} (h : E2 P G o = some (.defer f ys)) : ∃ f0 xs ts, o.op = .defer ⟨.value f0, xs, ts⟩ /\ fc G f0 = some f /\ Ae G xs.toList = some ys := by
 unfold E2 at h
 split at h
 ·obtain ⟨_, _, h⟩ := af h; obtain ⟨_, _, h⟩ := ag h; cases h
 ·rename_i f0 xs ts ho
  obtain ⟨_, h1, h⟩ := af h; obtain ⟨_, h2, h⟩ := ag h; cases h
  exact ⟨f0, xs, ts, ho, h2, h1⟩
 ·obtain ⟨_, _, h⟩ := ag h; cases h
 ·obtain ⟨_, hh, h⟩ := ag h; cases h
theorem Ma {o : Oper} {x : aW} (h : E2 P G o = some (.panic x)) : ∃ x0, o.op = .panic x0 /\ fc G x0 = some x := by
 unfold E2 at h
 split at h
 ·obtain ⟨_, _, h⟩ := af h; obtain ⟨_, _, h⟩ := ag h; cases h
 ·obtain ⟨_, _, h⟩ := af h; obtain ⟨_, _, h⟩ := ag h; cases h
 ·rename_i x0 ho
  obtain ⟨_, h2, h⟩ := ag h; cases h
  exact ⟨x0, ho, h2⟩
 ·obtain ⟨_, hh, h⟩ := ag h; cases h
theorem Ok {o : Oper} {a : Act} {next next' : Act -> World -> Prop} {Q Q' : Exit -> Act -> World -> Prop} (hn : ∀ a w, next a w -> next' a w) (hq : ∀ e a w, Q e a w -> Q' e a w) {r : Result Next} (h : o.upon P a next Q r) : o.upon P a next' Q' r := by
 unfold Oper.upon at *
 split at h
 ·exact hn _ _ h
 ·exact hn _ _ h
 ·exact hn _ _ h
 ·refine h.mono fun e w hp => ?_
  cases e with
  | returned v => exact hn _ _ hp
  | panicked c => exact hq _ _ _ hp
  | outgrown => obtain ⟨a, w, h⟩ := hp; exact ⟨a, w, hq _ _ _ h⟩
 ·exact h.mono fun v w hp => hn _ _ hp
 ·exact hq _ _ _ h
 ·exact h
theorem sl {ops : Array Oper} {Q Q' : Exit -> Act -> World -> Prop} (hq : ∀ e a w, Q e a w -> Q' e a w) : ∀ (l : List Nat) (a : Act) (w : World), wpOps P ops Q l a w -> wpOps P ops Q' l a w
 | [], a, w, h => hq _ _ _ h
 | i :: l, a, w, h => by
  simp only [wpOps] at h ⊢
  cases ho : ops[i]? with
  | none => simp only [ho] at h ⊢; exact sl hq l a w h
  | some o =>
   simp only [ho] at h ⊢
   split
   ·rename_i hw
    rw [if_pos hw] at h;rcases h with h | ⟨h1, a0, w0, h2⟩
    ·exact .inl (Ok (sl hq l) hq h)
    ·exact .inr ⟨h1, a0, w0, hq _ _ _ h2⟩
   ·rename_i hw
    rw [if_neg hw] at h;exact sl hq l _ w h
theorem Gm (bD : pG P G call) {base : Nat} {ops : Array Oper} : ∀ (is : List ba) (l : List Nat), is.length = l.length -> (∀ (k : Nat) (i : Nat) (io : ba), l[k]? = some i -> is[k]? = some io -> ∃ o, ops[i]? = some o /\ ul P G n ops o = some io) ->
  ∀ (ρ : ev) (m : Mem) (w : World) (fr : Fr) (a : Act) (out : Out), R base ρ m w -> jr G ρ -> BV ρ n fr a -> gR call is fr m = some out -> wpOps P ops (Reach base n ρ m w out) l a w := by
 intro is
 induction is with
 | nil =>
  intro l hl VA ρ m w fr a out hR hG hF h
  cases l with
  | cons x l => simp at hl
  | nil =>
   simp only [gR, bf] at h;subst h;exact ⟨rfl, ρ, hR, .refl _ _ _, hF⟩
 | cons io is ih =>
  intro l hl VA ρ m w fr a out hR hG hF h
  cases l with
  | nil => simp at hl
  | cons i l =>
  obtain ⟨o, ho, hc⟩ := VA 0 i io rfl rfl
  obtain ⟨hx, nB, AT, nR⟩ := Kk hc
  have zl : is.length = l.length := by simpa using hl
  have XP : ∀ (k : Nat) (i : Nat) (io : ba), l[k]? = some i -> is[k]? = some io -> ∃ o, ops[i]? = some o /\ ul P G n ops o = some io :=
   fun k i io h1 h2 => VA (k + 1) i io (by simpa using h1) (by simpa using h2)
  -- what follows, from where a step has led
  have next : ∀ {ρ1 : ev} {m1 : Mem} {w1 : World} {fX : Fr} {a1 : Act}, R base ρ1 m1 w1 -> Step ρ m w ρ1 m1 w1 -> BV ρ1 n fX a1 -> gR call is fX m1 = some out -> wpOps P ops (Reach base n ρ m w out) l a1 w1 := by
   intro ρ1 m1 w1 fX a1 lC hs wE h1
   have := ih l zl XP ρ1 m1 w1 fX a1 out lC (hG.ext hs.ext) wE h1
   exact sl (fun e a w hq => hq.after hs) l a1 w1 this
  simp only [gR] at h;simp only [wpOps, ho]
  cases hw : bh fr io.guard with
  | none => simp [hw] at h
  | some b =>
  rw [mq hF.tm nR hw]
  cases b with
  | false =>
   simp only [hw] at h;rw [if_neg (by simp)];rw [nB] at h;exact next hR (.refl _ _ _) (hF.put AT .undef) h
  | true =>
   simp only [hw] at h;rw [if_pos rfl]
   left
   simp only [Oper.wp]
   cases lB : io.op with
   | val op =>
    simp only [lB] at h
    cases rP : aB fr.eval op m with
    | none => simp [rP] at h
    | some r =>
     obtain ⟨v, m1⟩ := r
     simp only [rP] at h;rw [lB] at hx;obtain ⟨ρ1, w1, v', j0, hv, lC, hs⟩ := Eh (vo hx) hG hR hF.tm rP
     rcases j0 with j0 | ⟨j0, rfl⟩
     ·rw [j0]
      simp only [Oper.upon];rw [nB] at h;exact next lC hs ((hF.ext hs.ext).put AT hv) h
     ·rw [j0]
      simp only [Oper.upon];rw [nB] at h;exact next lC hs ((hF.ext hs.ext).put AT hv) h
   | call f args =>
    simp only [lB] at h;rw [lB] at hx;obtain ⟨f0, Wr, ts0, Rr, hf, Rh⟩ := GU hx
    cases JN : fr.eval f <;> simp only [JN, fP, reduceCtorEq] at h
    rename_i g x y
    obtain ⟨ay, j0, hv⟩ := MN (w := w) (P := P) Rr hf Rh hG hF.tm JN
    rw [j0]
    cases xP : call g (x ++ args.map fr.eval ++ y) m with
    | none => simp only [xP, reduceCtorEq] at h
    | some fin =>
     rcases bD _ _ _ _ xP base ρ w ay hR hG hv with ⟨h1, h2⟩ | ⟨v, v', rfl, h1, h2⟩
     ·rw [h1]
      simp only [Oper.upon];refine h2.mono fun e w' hp => ?_
      cases fin with
      | ret v m1 =>
       obtain ⟨ρ1, v', rfl, zi, lC, hs⟩ := hp
       simp only [xP] at h;rw [nB] at h;exact next lC hs ((hF.ext hs.ext).put AT zi) h
      | gI v m1 =>
       obtain ⟨ρ1, v', rfl, zi, lC, hs⟩ := hp
       simp only [xP, bf] at h;subst h;exact ⟨ρ1, v', rfl, zi, lC, hs, hF.ext hs.ext⟩
     ·rw [h1]
      simp only [xP] at h;simp only [Oper.upon];rw [nB] at h;exact next hR (.refl _ _ _) (hF.put AT h2) h
   | panic x =>
    simp only [lB] at h;rw [lB] at hx;obtain ⟨x0, Rr, Tc⟩ := Ma hx
    cases uf : fr.eval x <;> simp only [uf, reduceCtorEq, bf] at h
    rename_i t v
    subst h;obtain ⟨v', j0, hv⟩ := Qz (w := w) (P := P) Rr Tc hG hF.tm uf
    rw [j0];exact ⟨ρ, v', rfl, hv, hR, .refl _ _ _, hF⟩
   | defer f args =>
    simp only [lB] at h;rw [lB] at hx;obtain ⟨f0, Wr, ts0, Rr, hf, Rh⟩ := Mb hx
    cases JN : fr.eval f <;> simp only [JN, reduceCtorEq] at h
    rename_i g x y
    have VQ := ia hG hF.tm hf
    have hv := nG hG hF.tm Rh
    rw [JN] at VQ;generalize HX : a.eval f0 = av at VQ
    cases VQ with
    | @func _ _ _ x' y' Nc Y5 =>
    have j0 : (execOp a.eval o).run P w = .ok (.defer { target := .fn (.func g) ⟨y'⟩, args := ⟨x'⟩ ++ Wr.map a.eval }) w := by
     simp only [execOp, Rr, resolve, HX, Deferred.ofValue, Sem.run_bind, Sem.run_pure, Result.andThen_ok]
    rw [j0];simp only [Oper.upon];rw [nB] at h;have e1 : ((⟨x'⟩ : Array Value) ++ Wr.map a.eval).toList = x' ++ Wr.toList.map a.eval := by simp
    have hF2 : BV ρ n ⟨fr.tmps, (g, x ++ args.map fr.eval ++ y) :: fr.defers⟩ { a with defers := { target := .fn (.func g) ⟨y'⟩, args := ⟨x'⟩ ++ Wr.map a.eval } :: a.defers } :=
     ⟨⟨hF.tm.size, hF.tm.tmp⟩, .cons ⟨⟨y'⟩, rfl, by rw [e1]; exact (Nc.append hv).append Y5⟩ hF.F2⟩
    exact next hR (.refl _ _ _) (hF2.put AT .undef) h
end
end
section
section
variable {P : Program} {G : List Nat} {n : Nat} {call : Call} {chk : List (Nat × Nat)} {B0 : Nat}
inductive At (call : Call) (B0 : Nat) (o : ba) (i : Nat) (fr : Fr) (m : Mem) (v : EV) (m' : Mem) : Prop
 | skip (hw : bh fr o.guard = some false) (hv : v = .undef) (hm : m' = m)
 | pure (op : lD) (m1 : Mem) (hw : bh fr o.guard = some true) (ho : o.op = .val op) (hs : cW op = 0) (h : aB fr.eval op m = some (.val v m1)) (hm : m' = m)
 | make (op : lD) (m1 : Mem) (hw : bh fr o.guard = some true) (ho : o.op = .val op) (hs : cW op = 1) (h : aB fr.eval op ⟨B0 + i, m.gH⟩ = some (.val v m1)) (hm : m' = ⟨m.next, m1.gH⟩)
 | load (agg : Option Nat) (a : aW) (hw : bh fr o.guard = some true) (ho : o.op = .val (.load agg a)) (h : m.load agg (fr.eval a) = some v) (hm : m' = m)
 | act (op : lD) (hw : bh fr o.guard = some true) (ho : o.op = .val op) (hs : 3 <= cW op) (h : aB fr.eval op m = some (.val v m'))
 | call (f : aW) (args : List aW) (hw : bh fr o.guard = some true) (ho : o.op = .call f args) (h : fP call (fr.eval f) (args.map fr.eval) m = some (.ret v m'))
def nU (o : ba) (fr : Fr) : Prop := bh fr o.guard = some true /\ 3 <= sort o.op
def Fm (o : ba) (fr : Fr) (agg : Option Nat) (a : aW) : Prop := bh fr o.guard = some true /\ o.op = .val (.load agg a) /\ Gz (fr.eval a) = false
structure Canon (call : Call) (chk : List (Nat × Nat)) (B0 : Nat) (r : List ba) (i : Nat) (F : Nat -> Fr) (M : Nat -> Mem) (V : Nat -> EV) : Prop where
 at_ : ∀ k o, r[k]? = some o -> At call B0 o (i + k) (F (i + k)) (M (i + k)) (V (i + k)) (M (i + k + 1)) /\ F (i + k + 1) = (F (i + k)).put o.dst (V (i + k))
 c1 : ∀ k o agg a l q, r[k]? = some o -> r[l]? = some q -> Fm o (F (i + k)) agg a -> nU q (F (i + l)) -> bV (i + k) (i + l) chk = true ->
  (l < k -> (M (i + l)).eI agg ((F (i + k)).eval a) (V (i + k)) = true) /\ (k < l -> (M (i + l + 1)).eI agg ((F (i + k)).eval a) (V (i + k)) = true)
structure DK (call : Call) (chk : List (Nat × Nat)) (B0 : Nat) (r : List ba) (i : Nat) (jj : List (Nat × Mem)) (seen : List Seen) (F : Nat -> Fr) (M : Nat -> Mem) (V : Nat -> EV) : Prop extends Canon call chk B0 r i F M V where
 c2 : ∀ k o agg a, r[k]? = some o -> Fm o (F (i + k)) agg a -> ∀ j mj, (j, mj) ∈ jj -> bV (i + k) j chk = true -> mj.eI agg ((F (i + k)).eval a) (V (i + k)) = true
 c3 : ∀ l q, r[l]? = some q -> nU q (F (i + l)) -> ∀ s, s ∈ seen -> bV s.i (i + l) chk = true -> (M (i + l + 1)).eI s.agg s.a s.v = true
theorem L9 {o : ba} {r : List ba} {i : Nat} {fr fr' : Fr} {m m' : Mem} {v : EV} {jj uJ : List (Nat × Mem)} {seen Bi : List Seen} {F' : Nat -> Fr} {M' : Nat -> Mem} {V' : Nat -> EV}
  (PU : At call B0 o i fr m v m') (WW : fr' = fr.put o.dst v) (hF : F' (i + 1) = fr') (hM : M' (i + 1) = m') (hc : DK call chk B0 r (i + 1) uJ Bi F' M' V')
  (LN : ∀ x, x ∈ jj -> x ∈ uJ) (Th : ∀ x, x ∈ seen -> x ∈ Bi) (RB : nU o fr -> (i, m) ∈ uJ /\ ∀ s, s ∈ seen -> bV s.i i chk = true -> m'.eI s.agg s.a s.v = true)
  (Ux : ∀ agg a, Fm o fr agg a -> ⟨i, agg, fr.eval a, v⟩ ∈ Bi /\ ∀ j mj, (j, mj) ∈ jj -> bV i j chk = true -> mj.eI agg (fr.eval a) v = true) :
  ∃ F M V, F i = fr /\ M i = m /\ F (i + (r.length + 1)) = F' (i + 1 + r.length) /\ M (i + (r.length + 1)) = M' (i + 1 + r.length) /\ DK call chk B0 (o :: r) i jj seen F M V := by
 let F : Nat -> Fr := fun x => if x = i then fr else F' x
 let M : Nat -> Mem := fun x => if x = i then m else M' x
 let V : Nat -> EV := fun x => if x = i then v else V' x
 have F0 : F i = fr := if_pos rfl
 have M0 : M i = m := if_pos rfl
 have V0 : V i = v := if_pos rfl
 have FS : ∀ k, F (i + (k + 1)) = F' (i + 1 + k) := fun k => by show (if _ then _ else _) = _; rw [if_neg (by omega)]; congr 1; omega
 have MS : ∀ k, M (i + (k + 1)) = M' (i + 1 + k) := fun k => by show (if _ then _ else _) = _; rw [if_neg (by omega)]; congr 1; omega
 have VS : ∀ k, V (i + (k + 1)) = V' (i + 1 + k) := fun k => by show (if _ then _ else _) = _; rw [if_neg (by omega)]; congr 1; omega
 have F1 : F (i + 0 + 1) = fr' := by have := FS 0; rw [show i + 0 + 1 = i + (0 + 1) by omega, this]; exact hF
 have M1 : M (i + 0 + 1) = m' := by have := MS 0; rw [show i + 0 + 1 = i + (0 + 1) by omega, this]; exact hM
 have FS1 : ∀ k, F (i + (k + 1) + 1) = F' (i + 1 + k + 1) := fun k => by rw [show i + (k + 1) + 1 = i + (k + 1 + 1) by omega, FS]; congr 1
 have Zt : ∀ k, M (i + (k + 1) + 1) = M' (i + 1 + k + 1) := fun k => by rw [show i + (k + 1) + 1 = i + (k + 1 + 1) by omega, MS]; congr 1
 have pr : ∀ k, i + (k + 1) = i + 1 + k := fun k => by omega
 refine ⟨F, M, V, F0, M0, FS _, MS _, ⟨⟨?_, ?_⟩, ?_, ?_⟩⟩
 ·intro k q hk
  cases k with
  | zero =>
   simp at hk; subst hk
   rw [F1, M1];simp only [Nat.add_zero, F0, M0, V0];exact ⟨PU, WW⟩
  | succ k =>
   simp at hk
   have := hc.at_ k q hk
   rw [FS, MS, VS, FS1, Zt, pr k];exact this
 ·intro k p agg a l q hk hl hL hA hp
  cases k with
  | zero =>
   simp at hk; subst hk
   simp only [Nat.add_zero, F0, V0] at hL hp ⊢
   cases l with
   | zero =>
    refine ⟨fun h => absurd h (by omega), fun h => absurd h (by omega)⟩
   | succ l =>
    simp at hl
    refine ⟨fun h => absurd h (by omega), fun _ => ?_⟩
    rw [Zt];rw [FS] at hA;rw [pr l] at hp;exact hc.c3 l q hl hA _ (Ux agg a hL).1 hp
  | succ k =>
   simp at hk
   rw [FS, VS] at *
   cases l with
   | zero =>
    simp at hl; subst hl
    simp only [Nat.add_zero, F0, M0] at hA hp ⊢
    refine ⟨fun _ => ?_, fun h => absurd h (by omega)⟩
    rw [pr k] at hp;exact hc.c2 k p agg a hk hL i m (RB hA).1 hp
   | succ l =>
    simp at hl
    rw [FS] at hA;rw [pr k, pr l] at hp;obtain ⟨g1, g2⟩ := hc.c1 k p agg a l q hk hl hL hA hp
    rw [MS, Zt];exact ⟨fun h => g1 (by omega), fun h => g2 (by omega)⟩
 ·intro k p agg a hk hL j mj hj hp
  cases k with
  | zero =>
   simp at hk; subst hk
   simp only [Nat.add_zero, F0, V0] at hL hp ⊢
   exact (Ux agg a hL).2 j mj hj hp
  | succ k =>
   simp at hk
   rw [FS, VS] at *
   rw [pr k] at hp;exact hc.c2 k p agg a hk hL j mj (LN _ hj) hp
 ·intro l q hl hA s hs hp
  cases l with
  | zero =>
   simp at hl; subst hl
   rw [M1];simp only [Nat.add_zero, F0] at hA hp;exact (RB hA).2 s hs hp
  | succ l =>
   simp at hl
   rw [Zt];rw [FS] at hA;rw [pr l] at hp;exact hc.c3 l q hl hA s (Th _ hs) hp
theorem z9 {i : Nat} {agg : Option Nat} {a v : EV} : ∀ {sn : List (Nat × Mem)}, bE chk i agg a v sn = true -> ∀ j mj, (j, mj) ∈ sn -> bV i j chk = true -> mj.eI agg a v = true
 | [], _, j, mj, h, _ => by simp at h
 | (x, y) :: sn, h, j, mj, hm, hp => by
  simp only [bE] at h;rcases oU.1 hm with e | hm
  ·cases e
   simp only [hp, cond_true] at h
   cases hs : y.eI agg a v <;> simp only [hs, cond_true, cond_false, re] at h
   rfl
  ·have : bE chk i agg a v sn = true := by
    cases hq : bV i x chk <;> simp only [hq, cond_true, cond_false] at h
    ·exact h
    ·cases hs : y.eI agg a v <;> simp only [hs, cond_true, cond_false, re] at h
     exact h
   exact z9 this j mj hm hp
theorem oG {j : Nat} {m : Mem} : ∀ {se : List Seen}, aY chk j m se = true -> ∀ s, s ∈ se -> bV s.i j chk = true -> m.eI s.agg s.a s.v = true
 | [], _, s, h, _ => by simp at h
 | x :: se, h, s, hm, hp => by
  simp only [aY] at h;rcases oU.1 hm with e | hm
  ·cases e
   simp only [hp, cond_true] at h
   cases hs : m.eI x.agg x.a x.v <;> simp only [hs, cond_true, cond_false, re] at h
   rfl
  ·have : aY chk j m se = true := by
    cases hq : bV x.i j chk <;> simp only [hq, cond_true, cond_false] at h
    ·exact h
    ·cases hs : m.eI x.agg x.a x.v <;> simp only [hs, cond_true, cond_false, re] at h
     exact h
   exact oG this s hm hp
theorem R4 : ∀ (r : List ba) (i : Nat) (fr : Fr) (m : Mem) (jj : List (Nat × Mem)) (seen : List Seen) (out : Out), dL call chk B0 r i fr m jj seen = some out ->
  ∃ F M V, F i = fr /\ M i = m /\ out = .norm (F (i + r.length)) (M (i + r.length)) /\ DK call chk B0 r i jj seen F M V := by
 intro r
 induction r with
 | nil =>
  intro i fr m jj seen out h
  simp only [dL, bf] at h;subst h;exact ⟨fun _ => fr, fun _ => m, fun _ => .undef, rfl, rfl, rfl, ⟨⟨by simp, by simp⟩, by simp, by simp⟩⟩
 | cons o r ih =>
  intro i fr m jj seen out h
  -- one operation, and what follows
  have go : ∀ {v : EV} {m' : Mem} {uJ : List (Nat × Mem)} {Bi : List Seen}, At call B0 o i fr m v m' -> dL call chk B0 r (i + 1) (fr.put o.dst v) m' uJ Bi = some out ->
    (∀ x, x ∈ jj -> x ∈ uJ) -> (∀ x, x ∈ seen -> x ∈ Bi) -> (nU o fr -> (i, m) ∈ uJ /\ ∀ s, s ∈ seen -> bV s.i i chk = true -> m'.eI s.agg s.a s.v = true) ->
    (∀ agg a, Fm o fr agg a -> ⟨i, agg, fr.eval a, v⟩ ∈ Bi /\ ∀ j mj, (j, mj) ∈ jj -> bV i j chk = true -> mj.eI agg (fr.eval a) v = true) ->
    ∃ F M V, F i = fr /\ M i = m /\ out = .norm (F (i + (o :: r).length)) (M (i + (o :: r).length)) /\ DK call chk B0 (o :: r) i jj seen F M V := by
   intro v m' uJ Bi PU hr h1 h2 h3 h4
   obtain ⟨F', M', V', e1, e2, e3, hc⟩ := ih (i + 1) _ _ _ _ out hr
   obtain ⟨F, M, V, f1, f2, f3, f4, u5⟩ := L9 PU rfl e1 e2 hc h1 h2 h3 h4
   exact ⟨F, M, V, f1, f2, by rw [List.length_cons, f3, f4]; exact e3, u5⟩
  simp only [dL] at h
  cases hw : bh fr o.guard with
  | none => simp [hw] at h
  | some b =>
  cases b with
  | false =>
   simp only [hw] at h;exact go (.skip hw rfl rfl) h (fun _ h => h) (fun _ h => h) (fun ha => by have := ha.1; rw [hw] at this; cases this) (fun _ _ hl => by have := hl.1; rw [hw] at this; cases this)
  | true =>
   simp only [hw] at h
   cases ho : o.op with
   | panic x => simp [ho] at h
   | defer f x => simp [ho] at h
   | call f args =>
    simp only [ho] at h
    cases hc : fP call (fr.eval f) (args.map fr.eval) m with
    | none => simp [hc] at h
    | some fin =>
     cases fin with
     | gI v m1 => simp [hc] at h
     | ret v m1 =>
      simp only [hc] at h
      cases hk : aY chk i m1 seen <;> simp only [hk, cond_true, cond_false, reduceCtorEq] at h
      exact go (.call f args hw ho hc) h (fun _ h => As _ h) (fun _ h => h) (fun _ => ⟨by simp, oG hk⟩) (fun _ _ hl => by have := hl.2.1; rw [ho] at this; cases this)
   | val op =>
    simp only [ho] at h;have MQ : cW op < 3 -> nU o fr -> False := fun hs ha => by have := ha.2; rw [ho] at this; simp only [sort] at this; omega
    have Lj : cW op ≠ 2 -> ∀ agg a, Fm o fr agg a -> False := fun hs agg a hl => by
     have := hl.2.1; rw [ho] at this; cases this; exact hs rfl
    split at h
    ·rename_i hs
     cases rP : aB fr.eval op m with
     | none => simp [rP] at h
     | some q =>
      obtain ⟨v, m1⟩ := q
      simp only [rP] at h;exact go (.pure op m1 hw ho hs rP rfl) h (fun _ h => h) (fun _ h => h) (fun ha => (MQ (by omega) ha).elim) (fun _ _ hl => (Lj (by omega) _ _ hl).elim)
    ·rename_i hs
     cases rP : aB fr.eval op ⟨B0 + i, m.gH⟩ with
     | none => simp [rP] at h
     | some q =>
      obtain ⟨v, m1⟩ := q
      simp only [rP] at h;exact go (.make op m1 hw ho hs rP rfl) h (fun _ h => h) (fun _ h => h) (fun ha => (MQ (by omega) ha).elim) (fun _ _ hl => (Lj (by omega) _ _ hl).elim)
    ·rename_i hs
     cases op <;> simp only [reduceCtorEq] at h
     rename_i agg a
     cases hl : m.load agg (fr.eval a) with
     | none => simp [hl] at h
     | some v =>
      simp only [hl] at h
      cases hf : Gz (fr.eval a) <;> simp only [hf, cond_true, cond_false] at h
      ·cases hk : bE chk i agg (fr.eval a) v jj <;> simp only [hk, cond_true, cond_false, reduceCtorEq] at h
       refine go (.load agg a hw ho hl rfl) h (fun _ h => h) (fun _ h => As _ h) (fun ha => (MQ (by rw [hs]; omega) ha).elim) (fun YQ a' zl => ?_)
       have := zl.2.1; rw [ho] at this; cases this
       exact ⟨by simp, z9 hk⟩
      ·cases hk : dQ chk i m.next jj <;> simp only [hk, cond_true, cond_false, reduceCtorEq] at h
       refine go (.load agg a hw ho hl rfl) h (fun _ h => h) (fun _ h => h) (fun ha => (MQ (by rw [hs]; omega) ha).elim) (fun YQ a' zl => ?_)
       have := zl.2.1; rw [ho] at this; cases this
       have := zl.2.2; rw [hf] at this; cases this
    ·rename_i h0 h1 h2
     have hs : 3 <= cW op := by
      rcases Nat.lt_or_ge (cW op) 3 with h3 | h3
      ·exfalso
       have : cW op = 0 \/ cW op = 1 \/ cW op = 2 := by omega
       rcases this with e | e | e
       ·exact h0 e
       ·exact h1 e
       ·exact h2 e
      ·exact h3
     cases rP : aB fr.eval op m with
     | none => simp [rP] at h
     | some q =>
      obtain ⟨v, m1⟩ := q
      simp only [rP] at h
      cases hk : aY chk i m1 seen <;> simp only [hk, cond_true, cond_false, reduceCtorEq] at h
      exact go (.act op hw ho hs rP) h (fun _ h => As _ h) (fun _ h => h) (fun _ => ⟨by simp, oG hk⟩) (fun _ _ hl => (Lj (by omega) _ _ hl).elim)
end
end
section
structure Mr (ops : Array Oper) (l : List Nat) : Prop where
 nodup : l.Nodup
 all : ∀ i, i ∈ l ↔ i < ops.size
 YC : ∀ (k i : Nat) (o : Oper) (e : Edge), l[k]? = some i -> ops[i]? = some o -> e ∈ o.after -> fL e = true -> e.on ∈ l.take k
theorem Jb {e : Edge} (h : fL e = true) : Region.binds .any e = true := by
 unfold fL at h;unfold Region.binds
 cases hg : e.ground <;> simp_all
theorem AV : ∀ (l : List Oper) (i : Nat), u6 l i = true -> ∀ (k : Nat) (o : Oper) (e : Edge), l[k]? = some o -> e ∈ o.after -> fL e = true -> e.on < i + k
 | [], i, _, k, o, e, h, _, _ => by simp at h
 | x :: l, i, hd, k, o, e, h, he, hp => by
  simp only [u6, pI] at hd
  cases k with
  | zero =>
   simp at h; subst h
   have := List.all_eq_true.1 hd.1 e (by simpa using he)
   simp [hp] at this
   omega
  | succ k =>
   have := AV l (i + 1) hd.2 k o e (by simpa using h) he hp
   omega
theorem yV : ∀ (n : Nat) (l : List Nat), l.Nodup -> (∀ x, x ∈ l -> x < n) -> l.length <= n
 | 0, l, _, h => by
  cases l with
  | nil => simp
  | cons x l => exact absurd (h x (by simp)) (by omega)
 | n + 1, l, hn, h => by
  by_cases hm : n ∈ l
  ·have h1 := yV n (l.erase n) (hn.erase n) (fun x hx => by
    have h2 := (hn.mem_erase_iff).1 hx
    have := h x h2.2
    have := h2.1
    omega)
   rw [List.length_erase_of_mem hm] at h1;omega
  ·have h1 := yV n l hn (fun x hx => by
    have h2 := h x hx
    have : x ≠ n := fun e => hm (e ▸ hx)
    omega)
   omega
theorem OO {n : Nat} {l : List Nat} (hn : l.Nodup) (h : ∀ x, x ∈ l -> x < n) (hl : l.length = n) : ∀ i, i < n -> i ∈ l := by
 intro i hi
 apply Gb
 intro hni
 have := yV n (i :: l) (List.nodup_cons.2 ⟨hni, hn⟩) (fun x hx => by
  rcases oU.1 hx with rfl | hx
  ·exact hi
  ·exact h x hx)
 simp at this
 omega
theorem ON {l : List Nat} (h : l.Nodup) : l.reverse.Nodup := List.pairwise_reverse.2 (List.Pairwise.imp (fun h => Ne.symm h) h)
theorem Q1 (ops : Array Oper) (zm : u6 ops.toList 0 = true) : ∀ (fuel t : Nat) (listed : Array Bool) (acc : List Nat), listed.size = ops.size -> (∀ i, listed.getD i true = false ↔ (i < ops.size /\ i ∉ acc)) -> (∀ i, i ∈ acc -> i < ops.size) -> acc.Nodup -> acc.length + fuel = ops.size ->
  (∀ (k i : Nat) (o : Oper) (e : Edge), acc.reverse[k]? = some i -> ops[i]? = some o -> e ∈ o.after -> fL e = true -> e.on ∈ acc.reverse.take k) ->
  Mr ops (Region.linearise.go .any ops fuel t listed acc)
 | 0, t, listed, acc, uh, hl, bn, hnd, hlen, hed => by
  simp only [Region.linearise.go];refine ⟨ON hnd, fun i => ?_, hed⟩
  rw [List.mem_reverse];exact ⟨bn i, OO hnd bn (by omega) i⟩
 | fuel + 1, t, listed, acc, uh, hl, bn, hnd, hlen, hed => by
  simp only [Region.linearise.go]
  -- Xg is ready: the least Ot is not listed
  have hex : ∃ i, i < ops.size /\ i ∉ acc := by
   apply Gb
   intro mE
   have hall : ∀ i, i < ops.size -> i ∈ acc := fun x hx => Gb fun Y6 => mE ⟨x, hx, Y6⟩
   have h1 : (List.range ops.size).length <= acc.length := by
    have h2 := yV acc.length ((List.range ops.size).map fun x => acc.idxOf x) ?_ ?_
    ·simpa using h2
    ·have abQ : ∀ x, x < ops.size -> ∀ y, y < ops.size -> acc.idxOf x = acc.idxOf y -> x = y := by
      intro x hx y hy hxy
      have e1 := List.getElem_idxOf (List.idxOf_lt_length_iff.2 (hall x hx))
      have e2 := List.getElem_idxOf (List.idxOf_lt_length_iff.2 (hall y hy))
      rw [<- e1, <- e2]
      congr 1
     rw [List.Nodup, List.pairwise_map];refine List.Pairwise.imp_of_mem ?_ (List.nodup_range (n := ops.size))
     intro a b ha hb hab e
     exact hab (abQ a (by simpa using ha) b (by simpa using hb) e)
    ·intro x hx
     obtain ⟨y, hy, rfl⟩ := List.mem_map.1 hx
     exact List.idxOf_lt_length_iff.2 (hall y (by simpa using hy))
   simp at h1
   omega
  generalize XM : (List.range ops.size).filter (fun i => !listed.getD i true && ((ops[i]?).map (fun x => x.after.all fun e => !Region.binds .any e || listed.getD e.on false)).getD false) = rs
  have u0 : ∀ i, i ∈ rs ↔ i < ops.size /\ listed.getD i true = false /\ ∀ o, ops[i]? = some o -> ∀ e ∈ o.after, Region.binds .any e = true -> listed.getD e.on false = true := by
   intro i
   rw [<- XM];simp only [List.mem_filter, List.mem_range, pI, Bool.not_eq_true']
   constructor
   ·rintro ⟨h1, h2, h3⟩
    refine ⟨h1, h2, fun o ho e he hb => ?_⟩
    rw [ho] at h3;simp only [Option.map_some, Option.getD_some, Array.all_eq_true_iff_forall_mem] at h3;have := h3 e he
    simpa [hb] using this
   ·rintro ⟨h1, h2, h3⟩
    refine ⟨h1, h2, ?_⟩
    have ho : ops[i]? = some ops[i] := Array.getElem?_eq_getElem h1
    rw [ho];simp only [Option.map_some, Option.getD_some, Array.all_eq_true_iff_forall_mem];intro e he
    cases hb : Region.binds .any e with
    | false => rfl
    | true => simpa using h3 _ ho e he hb
  have VU : ∀ i, listed.getD i false = true ↔ (i < ops.size /\ i ∈ acc) := by
   intro i
   have h1 := hl i
   by_cases hi : i < ops.size
   ·have e1 : listed.getD i true = listed.getD i false := by simp [Array.getD, uh, hi]
    rw [e1] at h1
    cases hb : listed.getD i false with
    | true => rw [hb] at h1; simp at h1; exact ⟨fun _ => ⟨hi, h1 hi⟩, fun _ => rfl⟩
    | false => rw [hb] at h1; simp at h1; exact ⟨fun h => (by cases h), fun h => absurd h.2 h1.2⟩
   ·have e2 : listed.getD i false = false := by simp [Array.getD, uh, hi]
    rw [e2];exact ⟨fun h => (by cases h), fun h => absurd h.1 hi⟩
  have iM : rs ≠ [] := by
   -- the least one
   obtain ⟨i, hi⟩ : ∃ i, (i < ops.size /\ i ∉ acc) /\ ∀ j, j < i -> ¬ (j < ops.size /\ j ∉ acc) := by
    obtain ⟨i, hi⟩ := hex
    induction i using Nat.strongRecOn with
    | _ i ih =>
     by_cases h : ∃ j, j < i /\ (j < ops.size /\ j ∉ acc)
     ·obtain ⟨j, hj, VP⟩ := h; exact ih j hj VP
     ·exact ⟨i, hi, fun j hj h2 => h ⟨j, hj, h2⟩⟩
   intro abH
   have : i ∈ rs := by
    rw [u0];refine ⟨hi.1.1, (hl i).2 hi.1, fun o ho e he hb => ?_⟩
    rw [VU];have hp : fL e = true := by
     unfold Region.binds at hb;unfold fL
     cases hg : e.ground <;> simp_all
    have mF : e.on < i := by
     have := AV ops.toList 0 zm i o e (by simpa using ho) he hp
     omega
    have h2 := hi.2 e.on mF
    refine ⟨by omega, ?_⟩
    apply Gb
    intro h3
    exact h2 ⟨by omega, h3⟩
   rw [abH] at this;simp at this
  have dx : 0 < rs.length := List.length_pos_iff.2 iM
  have X4 : t % rs.length < rs.length := Nat.mod_lt _ dx
  rw [nc X4];simp only
  have hi : rs[t % rs.length] ∈ rs := Mv X4
  generalize rs[t % rs.length] = i at hi
  obtain ⟨h1, h2, h3⟩ := (u0 i).1 hi
  have hni : i ∉ acc := ((hl i).1 h2).2
  refine Q1 ops zm fuel _ _ (i :: acc) (by simpa using uh) (fun j => ?_) (fun j hj => ?_) (List.nodup_cons.2 ⟨hni, hnd⟩) (by simp; omega) ?_
  ·by_cases e : j = i
   ·subst e
    have : (listed.setIfInBounds j true).getD j true = true := by simp [Array.getD_eq_getD_getElem?, uh, h1]
    rw [this];simp
   ·have : (listed.setIfInBounds i true).getD j true = listed.getD j true := by
     rw [Array.getD_eq_getD_getElem?, Array.getElem?_setIfInBounds_ne (fun h => e h.symm), <- Array.getD_eq_getD_getElem?]
    rw [this, hl j];simp [e]
  ·rcases oU.1 hj with rfl | hj
   ·exact h1
   ·exact bn j hj
  ·intro k j o e hk ho he hp
   rw [List.reverse_cons] at hk ⊢
   by_cases KD : k < acc.reverse.length
   ·rw [BC KD] at hk
    rw [List.take_append_of_le_length (by omega)];exact hed k j o e hk ho he hp
   ·have abO : k = acc.reverse.length := by
     have := (uz.1 hk).1
     simp at this KD ⊢
     omega
    subst abO;rw [FA (fy _)] at hk;simp at hk
    subst hk;rw [List.take_append_of_le_length (fy _), List.take_length];have := (VU e.on).1 (h3 o ho e he (Jb hp))
    exact List.mem_reverse.2 this.2
theorem Hi {P : Program} (il : P.follows .mixedOrders = true) (ops : Array Oper) (zm : u6 ops.toList 0 = true) (t : Nat) : Mr ops (Region.schedule (P.follows .mixedOrders) ops t) := by
 unfold Region.schedule;rw [il];simp only [Bool.true_or, if_true];unfold Region.linearise;exact Q1 ops zm ops.size t _ [] (by simp) (fun i => by
  by_cases hi : i < ops.size
  ·simp [Array.getD_eq_getD_getElem?, hi]
  ·simp [Array.getD_eq_getD_getElem?, hi]) (by simp) (by simp) (by simp) (by simp)
theorem ua : ∀ (l : List Oper) (acc : List (List Nat)) (i : Nat), i < acc.length -> (fu l acc)[i]? = acc[i]?
 | [], acc, i, _ => rfl
 | o :: l, acc, i, h => by
  simp only [fu];rw [ua l _ i (by simp; omega), BC h]
theorem Fb : ∀ (l : List Oper) (acc : List (List Nat)) (k : Nat) (o : Oper), l[k]? = some o ->
  ∃ Kx : List (List Nat), (fu l acc)[acc.length + k]? = some ((o.after.toList.filter fL).flatMap fun e => e.on :: Kx.getD e.on []) /\ Kx.length = acc.length + k /\ ∀ i, i < Kx.length -> Kx[i]? = (fu l acc)[i]?
 | [], acc, k, o, h => by simp at h
 | x :: l, acc, k, o, h => by
  cases k with
  | zero =>
   simp at h; subst h
   refine ⟨acc, ?_, rfl, fun i hi => ?_⟩
   ·simp only [fu]
    rw [ua l _ _ (by simp)];simp
   ·simp only [fu]
    rw [ua l _ i (by simp; omega), BC hi]
  | succ k =>
   simp only [fu];obtain ⟨Kx, h1, h2, h3⟩ := Fb l (acc ++ [(x.after.toList.filter fL).flatMap fun e => e.on :: acc.getD e.on []]) k o (by simpa using h)
   refine ⟨Kx, ?_, by rw [h2]; simp; omega, h3⟩
   rw [<- h1]; congr 1; simp; omega
theorem F5 {ops : Array Oper} (zm : u6 ops.toList 0 = true) {l : List Nat} (hl : Mr ops l) : ∀ (j k : Nat), l[k]? = some j -> ∀ i, i ∈ (fu ops.toList []).getD j [] -> i ∈ l.take k := by
 intro j
 induction j using Nat.strongRecOn with
 | _ j ih =>
  intro k hk i hi
  have hj : j < ops.size := (hl.all j).1 (List.mem_of_getElem? hk)
  have ho : ops.toList[j]? = some ops[j] := by simp [hj]
  obtain ⟨Kx, h1, h2, h3⟩ := Fb ops.toList [] j ops[j] ho
  simp only [List.length_nil, Nat.zero_add] at h1 h2;rw [List.getD_eq_getElem?_getD, h1, Option.getD_some] at hi;obtain ⟨e, he, hi⟩ := List.mem_flatMap.1 hi
  obtain ⟨Zh, WX⟩ := List.mem_filter.1 he
  have bn : e.on < j := by
   have := AV ops.toList 0 zm j ops[j] e ho (by simpa using Zh) WX
   omega
  have hon := hl.YC k j ops[j] e hk (Array.getElem?_eq_getElem hj) (by simpa using Zh) WX
  rcases oU.1 hi with rfl | hi
  ·exact hon
  ·have ab3 : Kx.getD e.on [] = (fu ops.toList []).getD e.on [] := by
    rw [List.getD_eq_getElem?_getD, List.getD_eq_getElem?_getD, h3 e.on (by omega)]
   rw [ab3] at hi;obtain ⟨k', oP⟩ := List.mem_iff_getElem?.1 hon
   have UA : k' < k := by
    have := (uz.1 oP).1
    simp at this; omega
   rw [List.getElem?_take, if_pos UA] at oP
   have := ih e.on bn k' oP i hi
   exact (List.take_subset_take_left l (Nat.le_of_lt UA)) this
end
section
section
variable {G : List Nat} {base : Nat} {ρ : ev} {m : Mem} {w : World} {P : Program} {n : Nat} {fr : Fr} {a : Act}
theorem Lw {o : Oper} {io : lD} (hc : UK P G o = some io) (hs : cW io = 1) (hG : jr G ρ) (hR : RN base ρ m w) (hF : FR ρ n fr a) {v : EV} {m1 : Mem} (h : aB fr.eval io m = some (.val v m1)) :
  ∃ B, m1 = m.new B /\ ∃ ρ' w' v', (execOp a.eval o).run P w = .ok (.value v') w' /\ VR ρ' v v' /\ Made base ρ m w ρ' B w' := by
 have E : ∀ {x : Operand} {y : aW}, fc G x = some y -> VR ρ (fr.eval y) (a.eval x) := fun h => ia hG hF h
 have fin : ∀ {s : Sem Value} {B : fK}, execOp a.eval o = (do pure (Next.value (<- s)) : Sem Next) -> vt P s base ρ m w v B -> ∃ ρ' w' v', (execOp a.eval o).run P w = .ok (.value v') w' /\ VR ρ' v v' /\ Made base ρ m w ρ' B w' := by
  rintro s B he ⟨ρ', w', v', h1, h2, h3⟩
  exact ⟨ρ', w', v', by rw [he]; simp [h1], h2, h3⟩
 unfold UK at hc
 split at hc
 case h_1 => obtain ⟨_, _, rfl⟩ := ag hc; simp [cW] at hs
 case h_2 => obtain ⟨_, _, rfl⟩ := ag hc; simp [cW] at hs
 case h_3 => obtain ⟨_, _, hc⟩ := af hc; obtain ⟨_, _, hc⟩ := af hc; obtain ⟨_, _, rfl⟩ := ag hc; simp [cW] at hs
 case h_4 e ho =>
  obtain ⟨z, hz, rfl⟩ := ag hc
  simp only [aB, bf, R1.val.injEq] at h;obtain ⟨rfl, rfl⟩ := h
  exact ⟨_, rfl, fin (by simp only [execOp, ho]) (Ff hR hz)⟩
 case h_5 e x ho =>
  obtain ⟨y, hy, rfl⟩ := ag hc
  simp only [aB] at h
  cases mg : (fr.eval y).cells with
  | none => simp [mg] at h
  | some cs =>
   simp only [mg, bf, R1.val.injEq] at h;obtain ⟨rfl, rfl⟩ := h
   exact ⟨_, rfl, fin (by simp only [execOp, ho]) (Km hR (E hy) mg)⟩
 case h_6 =>
  obtain ⟨_, _, hc⟩ := af hc
  rcases fW hc with hc | hc
  ·obtain ⟨_, _, hc⟩ := af hc; obtain ⟨_, _, hc⟩ := af hc; obtain ⟨_, _, rfl⟩ := ag hc; simp [cW] at hs
  ·obtain ⟨_, _, hc⟩ := af hc; obtain ⟨_, _, hc⟩ := af hc; obtain ⟨_, _, rfl⟩ := ag hc; simp [cW] at hs
 case h_7 t len parts ho =>
  obtain ⟨e, hu, hc⟩ := af hc
  obtain ⟨s, uh, hc⟩ := af hc
  obtain ⟨z, hz, hc⟩ := af hc
  obtain ⟨ps, hp, hc⟩ := af hc
  obtain ⟨_, HS, hc⟩ := af hc
  obtain ⟨_, hl, rfl⟩ := ag hc
  have hu := jX hu
  simp only [aB] at h
  cases mg : fB (eD len z) (ps.map fun p => (p.1 * s, s, fr.eval p.2)) with
  | none => simp [mg] at h
  | some cs =>
   simp only [mg, bf, R1.val.injEq] at h;obtain ⟨rfl, rfl⟩ := h
   obtain ⟨p1, p2⟩ := mapM_some _ hp
   have hb := BA (P := P) hR hu uh hz (aS (jc HS)) (qS (jc hl)) (qs := parts.toList.map fun p => (p.1, a.eval p.2)) (by simpa using p1.symm) (fun i p q hp' GC => by
    rw [List.getElem?_map] at hp' GC
    obtain ⟨p0, LO, rfl⟩ := j8.1 hp'
    obtain ⟨q0, XR, rfl⟩ := j8.1 GC
    obtain ⟨x, hx, hxp⟩ := ag (p2 i q0 p0 XR LO)
    subst hxp;exact ⟨⟨rfl, rfl⟩, E hx⟩) mg
   have : (parts.map fun (i, x) => (i, a.eval x)) = (⟨parts.toList.map fun p => (p.1, a.eval p.2)⟩ : Array (Nat × Value)) := by apply Array.ext'; simp
   exact ⟨_, rfl, fin (by simp only [execOp, ho]; rw [this]) hb⟩
 case h_8 => obtain ⟨_, _, hc⟩ := af hc; obtain ⟨_, _, rfl⟩ := ag hc; simp [cW] at hs
 case h_9 => obtain ⟨_, _, hc⟩ := af hc; obtain ⟨_, _, hc⟩ := af hc; obtain ⟨_, _, rfl⟩ := ag hc; simp [cW] at hs
 case h_10 => obtain ⟨_, _, rfl⟩ := ag hc; simp [cW] at hs
 case h_11 op t x y yt ho =>
  obtain ⟨_, _, hc⟩ := af hc; obtain ⟨_, _, hc⟩ := af hc
  split at hc
  ·unfold UL at hc
   simp only [Bool.cond_eq_ite] at hc
   split at hc <;> (obtain ⟨_, _, rfl⟩ := ag hc; simp [cW] at hs)
  ·unfold UL at hc
   simp only [Bool.cond_eq_ite] at hc
   split at hc <;> (obtain ⟨_, _, rfl⟩ := ag hc; simp [cW] at hs)
  ·cases hc; simp [cW] at hs
 case h_12 => obtain ⟨_, _, rfl⟩ := ag hc; simp [cW] at hs
 case h_13 s d x ho =>
  obtain ⟨y, hy, hc⟩ := af hc
  rcases fW hc with hc | hc
  ·obtain ⟨_, _, hc⟩ := af hc; obtain ⟨_, _, rfl⟩ := ag hc; simp [cW] at hs
  rcases fW hc with hc | hc
  ·obtain ⟨_, _, hc⟩ := af hc; obtain ⟨_, _, rfl⟩ := ag hc; simp [cW] at hs
  rcases fW hc with hc | hc
  ·obtain ⟨_, hsu, hc⟩ := af hc
   obtain ⟨e, hd, hc⟩ := af hc
   obtain ⟨k, he, hc⟩ := af hc
   obtain ⟨_, hk, rfl⟩ := ag hc
   have hk : k = .u8 := by have := aS (jc hk); cases k <;> simp [bZ] at this; rfl
   subst hk;simp only [aB] at h;obtain ⟨B, rfl, hB⟩ := E4 (P := P) hR (kL hsu) (jX hd) (BZ he) (E hy) (lH h)
   exact ⟨B, rfl, fin (by simp only [execOp, ho]) hB⟩
  ·obtain ⟨_, _, hc⟩ := af hc; obtain ⟨_, _, hc⟩ := af hc; obtain ⟨_, _, hc⟩ := af hc; obtain ⟨_, _, rfl⟩ := ag hc; simp [cW] at hs
 case h_14 => obtain ⟨_, _, hc⟩ := af hc; obtain ⟨_, _, rfl⟩ := ag hc; simp [cW] at hs
 case h_15 => obtain ⟨_, _, hc⟩ := af hc; obtain ⟨_, _, rfl⟩ := ag hc; simp [cW] at hs
 case h_16 t ho =>
  obtain ⟨_, _, rfl⟩ := ag hc
  simp only [aB, bf, R1.val.injEq] at h;obtain ⟨rfl, rfl⟩ := h
  refine ⟨_, rfl, fin (by simp only [execOp, ho]) (s := Instr.makeMap t (none.map a.eval)) ?_⟩
  have := s4 (P := P) hR
  simpa [Instr.makeMap] using this
 case h_17 t k z ho =>
  obtain ⟨q, hu, rfl⟩ := ag hc
  have hu := yj hu
  simp only [aB, bf, R1.val.injEq] at h;obtain ⟨rfl, rfl⟩ := h
  refine ⟨_, rfl, fin (by simp only [execOp, ho]) (s := Instr.makeMap t ((some (.const (.int k z))).map a.eval)) ?_⟩
  obtain ⟨ρ', w', v', h1, h2⟩ := s4 (P := P) hR
  exact ⟨ρ', w', v', by simpa [Instr.makeMap, run_underlying hu, Act.eval, asInt, asIntOf] using h1, h2⟩
 case h_18 t l c ho =>
  obtain ⟨e, hu, hc⟩ := af hc
  obtain ⟨i, hi, hc⟩ := af hc
  obtain ⟨z, hz, hc⟩ := af hc
  obtain ⟨l', hl, hc⟩ := af hc
  obtain ⟨c', u5, hc⟩ := af hc
  obtain ⟨_, HS, hc⟩ := af hc
  obtain ⟨_, hb, rfl⟩ := ag hc
  have xO := E hl
  have LS := E u5
  simp only [aB] at h;have hex : execOp a.eval o = (do pure (Next.value (<- Instr.makeSlice t (a.eval l) (a.eval c))) : Sem Next) := by simp only [execOp, ho]
  generalize fr.eval l' = el at xO h
  generalize fr.eval c' = ec at LS h
  generalize a.eval l = al at xO hex
  generalize a.eval c = ac at LS hex
  cases xO <;> (try simp only [reduceCtorEq] at h)
  rename_i k1 n1
  cases k1 <;> (try simp only [reduceCtorEq] at h)
  cases n1 <;> (try simp only [reduceCtorEq] at h)
  rename_i ln
  cases LS <;> (try simp only [reduceCtorEq] at h)
  rename_i k2 n2
  cases k2 <;> (try simp only [reduceCtorEq] at h)
  cases n2 <;> (try simp only [reduceCtorEq] at h)
  rename_i cn
  cases h1 : ln.ble cn <;> simp only [h1, cond_true, cond_false, reduceCtorEq] at h
  cases h2 : cn.ble room <;> simp only [h2, cond_true, cond_false, reduceCtorEq, bf, R1.val.injEq] at h
  obtain ⟨rfl, rfl⟩ := h
  exact ⟨_, rfl, fin hex (yY hR (jX hu) hi hz (aS (jc HS)) (qS (jc hb)) (qS h1) (qS h2))⟩
 case h_19 =>
  obtain ⟨_, _, hc⟩ := af hc; obtain ⟨_, _, hc⟩ := af hc; obtain ⟨_, _, hc⟩ := af hc; obtain ⟨_, _, hc⟩ := af hc; obtain ⟨_, _, hc⟩ := af hc
  rcases fW hc with hc | hc
  ·obtain ⟨_, _, hc⟩ := af hc; obtain ⟨_, _, rfl⟩ := ag hc; simp [cW] at hs
  rcases fW hc with hc | hc
  ·obtain ⟨_, _, hc⟩ := af hc; obtain ⟨_, _, rfl⟩ := ag hc; simp [cW] at hs
  ·obtain ⟨_, _, hc⟩ := af hc; obtain ⟨_, _, rfl⟩ := ag hc; simp [cW] at hs
 case h_20 => obtain ⟨_, _, hc⟩ := af hc; obtain ⟨_, _, hc⟩ := af hc; obtain ⟨_, _, hc⟩ := af hc; obtain ⟨_, _, hc⟩ := af hc; obtain ⟨_, _, rfl⟩ := ag hc; simp [cW] at hs
 case h_21 => obtain ⟨_, _, hc⟩ := af hc; obtain ⟨_, _, hc⟩ := af hc; obtain ⟨_, _, hc⟩ := af hc; obtain ⟨_, _, rfl⟩ := ag hc; simp [cW] at hs
 case h_22 =>
  obtain ⟨_, _, hc⟩ := af hc; obtain ⟨_, _, hc⟩ := af hc
  rcases fW hc with hc | hc
  ·obtain ⟨_, _, hc⟩ := af hc; obtain ⟨_, _, rfl⟩ := ag hc; simp [cW] at hs
  ·obtain ⟨_, _, hc⟩ := af hc; obtain ⟨_, _, rfl⟩ := ag hc; simp [cW] at hs
 case h_23 =>
  obtain ⟨_, _, hc⟩ := af hc; obtain ⟨_, _, hc⟩ := af hc
  rcases fW hc with hc | hc
  ·obtain ⟨_, _, rfl⟩ := ag hc; simp [cW] at hs
  ·obtain ⟨_, _, hc⟩ := af hc; obtain ⟨_, _, hc⟩ := af hc; obtain ⟨_, _, rfl⟩ := ag hc; simp [cW] at hs
 case h_24 => obtain ⟨_, _, hc⟩ := af hc; obtain ⟨_, _, hc⟩ := af hc; obtain ⟨_, _, hc⟩ := af hc; obtain ⟨_, _, hc⟩ := af hc; obtain ⟨_, _, rfl⟩ := ag hc; simp [cW] at hs
 case h_25 => obtain ⟨_, _, hc⟩ := af hc; obtain ⟨_, _, hc⟩ := af hc; obtain ⟨_, _, hc⟩ := af hc; obtain ⟨_, _, hc⟩ := af hc; obtain ⟨_, _, rfl⟩ := ag hc; simp [cW] at hs
 case h_26 => obtain ⟨_, _, hc⟩ := af hc; obtain ⟨_, _, hc⟩ := af hc; obtain ⟨_, _, hc⟩ := af hc; obtain ⟨_, _, hc⟩ := af hc; obtain ⟨_, _, rfl⟩ := ag hc; simp [cW] at hs
 case h_27 => obtain ⟨_, _, hc⟩ := af hc; obtain ⟨_, _, rfl⟩ := ag hc; simp [cW] at hs
 case h_28 => obtain ⟨_, _, rfl⟩ := ag hc; simp [cW] at hs
 case h_29 c ho =>
  obtain ⟨ys, Rh, hc⟩ := af hc
  split at hc
  ·exfalso
   unfold vp at hc;simp only [Bool.cond_eq_ite] at hc
   split at hc
   ·split at hc <;> first | (cases hc; simp [cW] at hs; done) | cases hc
   ·split at hc <;> first | (cases hc; simp [cW] at hs; done) | cases hc
   ·cases hc; simp [cW] at hs
   ·cases hc; simp [cW] at hs
   ·obtain ⟨_, _, hc⟩ := af hc
    obtain ⟨_, _, hc⟩ := af hc
    obtain ⟨_, _, hc⟩ := af hc
    obtain ⟨_, _, hc⟩ := af hc
    obtain ⟨_, _, hc⟩ := af hc
    split at hc <;> first | (cases hc; simp [cW] at hs; done) | cases hc
   ·split at hc
    ·split at hc <;> first | (cases hc; simp [cW] at hs; done) | cases hc
    ·cases hc
   ·split at hc
    ·obtain ⟨_, _, rfl⟩ := ag hc; simp [cW] at hs
    ·cases hc
   ·cases hc
  ·cases hc
 case h_30 => cases hc
theorem ph {l : List aW} {f g : aW -> EV} (h : ∀ x, x ∈ l -> f x = g x) : l.map f = l.map g := List.map_congr_left h
theorem jI {l : Option aW} {f g : aW -> EV} (h : ∀ x, x ∈ Eg l -> f x = g x) : l.map f = l.map g := by
 cases l with
 | none => rfl
 | some x => simp [h x (by simp [Eg])]
theorem xU {f g : aW -> EV} {op : lD} (h : ∀ x, x ∈ iA op -> f x = g x) (m : Mem) : aB f op m = aB g op m := by
 cases op
 case build z ps =>
  simp only [aB];rw [List.map_congr_left (g := fun p => (p.1, p.2.1, g p.2.2))];intro p hp
  rw [h p.2.2 (by simp only [iA, List.mem_map]; exact ⟨p, hp, rfl⟩)]
 case bt e s l z ps =>
  simp only [aB];rw [List.map_congr_left (g := fun p => (p.1 * s, s, g p.2))];intro p hp
  rw [h p.2 (by simp only [iA, List.mem_map]; exact ⟨p, hp, rfl⟩)]
 case BL k x y =>
  simp only [aB];rw [ph (l := x) (fun z hz => h z (by simp [iA, hz])), ph (l := y) (fun z hz => h z (by simp [iA, hz]))]
 case max xs => simp only [aB]; rw [ph (l := xs) h]
 case min xs => simp only [aB]; rw [ph (l := xs) h]
 case gd x l hh =>
  simp only [aB];rw [h x (by simp [iA]), jI (l := l) (fun z hz => h z (by simp [iA, hz])), jI (l := hh) (fun z hz => h z (by simp [iA, hz]))]
 case uL e x l hh mm =>
  simp only [aB];rw [h x (by simp [iA]), jI (l := l) (fun z hz => h z (by simp [iA, hz])), jI (l := hh) (fun z hz => h z (by simp [iA, hz])), jI (l := mm) (fun z hz => h z (by simp [iA, hz]))]
 case xo e k x l hh mm =>
  simp only [aB];rw [h x (by simp [iA]), jI (l := l) (fun z hz => h z (by simp [iA, hz])), jI (l := hh) (fun z hz => h z (by simp [iA, hz])), jI (l := mm) (fun z hz => h z (by simp [iA, hz]))]
 all_goals
  simp only [iA, oU, List.not_mem_nil, or_false, forall_eq_or_imp, forall_eq] at h;simp only [aB, h]
theorem Ja {f : aW -> EV} {op : lD} (hs : cW op = 0) {m m1 : Mem} {v : EV} (h : aB f op m = some (.val v m1)) : m1 = m /\ ∀ m', aB f op m' = some (.val v m') := by
 have e1 : ∀ {x : Option EV}, gx m x = some (.val v m1) -> m1 = m /\ ∀ m', gx m' x = some (.val v m') := by
  intro x hx
  obtain ⟨h1, h2⟩ := fR hx
  exact ⟨h2, fun m' => by rw [h1]; rfl⟩
 cases op <;> simp only [cW] at hs <;> (try (simp at hs; done))
 case conv c x =>
  cases c <;> simp at hs
  all_goals
   simp only [aB] at h ⊢
   have h1 := lH h
   generalize f x = e at h1 ⊢
   cases e <;> simp only [kY, reduceCtorEq, bf, eO] at h1
   obtain ⟨rfl, rfl⟩ := h1
   exact ⟨rfl, fun m' => rfl⟩
 all_goals
  simp only [aB, Bool.cond_eq_ite] at h ⊢
  first
   | exact e1 h
   | (simp only [bf, R1.val.injEq] at h; obtain ⟨rfl, rfl⟩ := h; exact ⟨rfl, fun m' => rfl⟩)
   | (revert h; (repeat' split) <;> intro h <;> first
     | (cases h; done)
     | exact e1 h
     | (simp only [bf, R1.val.injEq] at h; obtain ⟨rfl, rfl⟩ := h; exact ⟨rfl, fun m' => rfl⟩)
     | (simp_all; done))
end
end
section
theorem K3 {a b : Option Nat} (h : yH a b = true) : a = b := by
 cases a <;> cases b <;> simp [yH] at h
 ·rfl
 ·exact congrArg some h
mutual
theorem Cm : ∀ {a b : EV}, EV.same a b = true -> a = b
 | a, b, h => by
  cases a <;> cases b <;> simp only [EV.same, re] at h
  case undef.undef => rfl
  case bL.bL => rfl
  case ae.ae => rfl
  case bz.bz => rfl
  case aO.aO => rfl
  case aD.aD => rfl
  case bool.bool x y => rw [beq_iff_eq.1 h]
  case int.int k x l y =>
   cases hk : (bZ k).beq (bZ l) <;> simp only [hk, cond_true, cond_false, re] at h
   rw [jN hk, xE] at *
   rw [of_decide_eq_true h]
  case str.str x y =>
   rw [fE] at h;rw [of_decide_eq_true h]
  case ptr.ptr x i y j =>
   cases hk : x.beq y <;> simp only [hk, cond_true, cond_false, re] at h
   rw [aS hk, aS h]
  case slice.slice x i k c y j l d =>
   cases h1 : x.beq y <;> simp only [h1, cond_true, cond_false, re] at h
   cases h2 : i.beq j <;> simp only [h2, cond_true, cond_false, re] at h
   cases h3 : k.beq l <;> simp only [h3, cond_true, cond_false, re] at h
   rw [aS h1, aS h2, aS h3, K3 h]
  case map.map x y => rw [aS h]
  case func.func f x y g z u =>
   cases h1 : f.beq g <;> simp only [h1, cond_true, cond_false, re] at h
   cases h2 : EV.ma x z <;> simp only [h2, cond_true, cond_false, re] at h
   rw [aS h1, rp h2, rp h]
  case iface.iface t v u z =>
   cases h1 : t.beq u <;> simp only [h1, cond_true, cond_false, re] at h
   rw [aS h1, Cm h]
  case agg.agg x y => rw [rp h]
  case tuple.tuple x y => rw [rp h]
  case fz.fz t e x u f y =>
   cases h0 : t.beq 0 <;> simp only [h0, cond_true, cond_false, re] at h
   cases h1 : t.beq u <;> simp only [h1, cond_true, cond_false, re] at h
   cases h2 : e.beq f <;> simp only [h2, cond_true, cond_false, re] at h
   rw [aS h1, aS h2, Gi h]
theorem rp : ∀ {a b : List EV}, EV.ma a b = true -> a = b
 | [], [], _ => rfl
 | [], _ :: _, h => by simp [EV.ma] at h
 | _ :: _, [], h => by simp [EV.ma] at h
 | x :: a, y :: b, h => by
  simp only [EV.ma] at h
  cases h1 : EV.same x y <;> simp only [h1, cond_true, cond_false, re] at h
  rw [Cm h1, rp h]
theorem Gi : ∀ {a b : List (List EV)}, EV.qT a b = true -> a = b
 | [], [], _ => rfl
 | [], _ :: _, h => by simp [EV.qT] at h
 | _ :: _, [], h => by simp [EV.qT] at h
 | x :: a, y :: b, h => by
  simp only [EV.qT] at h
  cases h1 : EV.ma x y <;> simp only [h1, cond_true, cond_false, re] at h
  rw [rp h1, Gi h]
end
theorem Gf {m : Mem} {agg : Option Nat} {a v : EV} (h : m.eI agg a v = true) : m.load agg a = some v := by
 unfold Mem.eI at h
 cases hl : m.load agg a with
 | none => simp [hl] at h
 | some x => simp only [hl] at h; rw [Cm h]
theorem QZ {m m' : Mem} {agg : Option Nat} {b off : Nat} (h : m.get b = m'.get b) : m.load agg (.ptr b off) = m'.load agg (.ptr b off) := by
 simp only [Mem.load, h]
theorem R.congr {base : Nat} {ρ : ev} {m m' : Mem} {w : World} (h : R base ρ m w) (hn : m'.next = m.next) (hg : ∀ b, m'.get b = m.get b) : R base ρ m' w :=
 ⟨fun b L hb => by rw [hn]; exact h.lt b L hb, fun b L hb => by rw [hg]; exact h.de b L hb, fun b c L L' h1 h2 h3 h4 => h.inj b c L L' h1 h2 (by unfold Live at *; rwa [hg] at h3) (by unfold Live at *; rwa [hg] at h4), h.base,
  fun b hb => by rw [hg]; exact h.clean b (by rw [<- hn]; exact hb)⟩
theorem Step.congr {ρ ρ' : ev} {m m1 fU : Mem} {w w' : World} (h : Step ρ m w ρ' m1 w') (hn : fU.next = m1.next) (hg : ∀ b, fU.get b = m1.get b) : Step ρ m w ρ' fU w' :=
 ⟨h.ext, h.new, by rw [hn]; exact h.next, fun b hb hr => by rw [hg]; exact h.same b hb hr, fun b hb hd => by rw [hg]; exact h.dead b hb hd, h.size,
  fun i hi ⟨b, L, h1, h2, h3, h4⟩ => h.K6 i hi ⟨b, L, h1, by unfold Live at *; rwa [hg] at h2, h3, h4⟩, h.kept, h.os, h.tape, h.output⟩
theorem R.weaken {base : Nat} {ρ : ev} {m m' : Mem} {w : World} (h : R base ρ m w) (hn : ∀ b L, ρ b = some L -> b < m'.next) (hg : ∀ b L, ρ b = some L -> m'.get b = m.get b \/ m'.get b = .dead) (hc : ∀ b, m'.next <= b -> m'.get b = .dead) : R base ρ m' w := by
 have lv : ∀ b L, ρ b = some L -> Live m' b -> Live m b := fun b L hb hl => by
  rcases hg b L hb with e | e
  ·unfold Live at *; rwa [e] at hl
  ·exact absurd e hl
 refine ⟨hn, fun b L hb => ?_, fun b c L L' h1 h2 h3 h4 => h.inj b c L L' h1 h2 (lv b L h1 h3) (lv c L' h2 h4), h.base, hc⟩
 rcases hg b L hb with e | e
 ·rw [e]; exact h.de b L hb
 ·rw [e]; trivial
theorem side {base : Nat} {ρ : ev} {B : fK} {L : Loc} {w : World} (h : Bd base ρ B L w) (hl : B ≠ .dead) : (L.ro = false -> base <= L.de) /\ (L.ro = true -> L.de < base) := by
 cases B with
 | dead => exact absurd rfl hl
 | cells cs esz el ro =>
  obtain ⟨_, _, _, _, _, _, h4, _, _, h7, h8⟩ := h
  exact ⟨fun e => (h7 (by rw [<- h4]; exact e)).1, fun e => h8 (by rw [<- h4]; exact e)⟩
 | map es =>
  obtain ⟨_, _, _, _, _, h4, h5⟩ := h
  exact ⟨fun _ => h4, fun e => by rw [h5] at e; cases e⟩
theorem over (m : Mem) (f : Nat -> fK) : ∀ l : List Nat, ∃ m' : Mem, m'.next = m.next /\ ∀ b, m'.get b = if b ∈ l then f b else m.get b
 | [] => ⟨m, rfl, fun b => by simp⟩
 | x :: l => by
  obtain ⟨m', h1, h2⟩ := over m f l
  refine ⟨m'.set x (f x), h1, fun b => ?_⟩
  rw [Mem.bW, h2 b];by_cases e : b = x
  ·subst e; simp
  ·simp [e]
theorem R8 {base : Nat} {ρ0 ρ ρ' : ev} {m0 Mm mi me M2 : Mem} {w0 w w' : World} (l : List Nat) (hR : R base ρ Mm w) (eo : Step ρ0 m0 w0 ρ Mm w) (WY : R base ρ' me w') (hs : Step ρ mi w ρ' me w')
  (hl : ∀ b, b ∈ l -> m0.next <= b /\ b < mi.next /\ mi.get b = .dead) (Zd : ∀ b L, ρ b = some L -> b ∉ l -> mi.get b = Mm.get b \/ mi.get b = .dead) (XZ : ∀ b, b < m0.next -> mi.get b = Mm.get b) (Fx : m0.next <= mi.next)
  (h2n : M2.next = me.next) (h2g : ∀ b, M2.get b = if b ∈ l then Mm.get b else me.get b) : R base ρ' M2 w' /\ Step ρ0 m0 w0 ρ' M2 w' := by
 have old : ∀ b L, b ∈ l -> ρ' b = some L -> ρ b = some L := by
  intro b L hb hL
  cases e : ρ b with
  | some L' => rw [hs.ext b L' e] at hL; exact hL
  | none => have := hs.new b e (by rw [hL]; simp); have := (hl b hb).2.1; omega
 have EG : ∀ b, b ∈ l -> M2.get b = Mm.get b := fun b hb => by rw [h2g, if_pos hb]
 have EE : ∀ b, b ∉ l -> M2.get b = me.get b := fun b hb => by rw [h2g, if_neg hb]
 -- a block Ot waits is not in the YR reach
 have apart : ∀ b L, b ∈ l -> ρ b = some L -> Live Mm b -> L.ro = false -> L.de < w.heap.size /\ ¬ K6 ρ mi L.de := by
  intro b L hb hL xO qY
  refine ⟨(hR.de b L hL).lt xO, ?_⟩
  rintro ⟨c, Mc, hc, LP, Vy, xl⟩
  have oQ : c ∉ l := fun h => LP (hl c h).2.2
  have VN : Live Mm c := by
   rcases Zd c Mc hc oQ with e | e
   ·unfold Live at *; rwa [e] at LP
   ·exact absurd e LP
  have := hR.inj c b Mc L hc hL VN xO Vy xl
  exact oQ (this ▸ hb)
 have mix : ∀ b c L L', b ∈ l -> c ∉ l -> ρ' b = some L -> ρ' c = some L' -> Live M2 b -> Live M2 c -> L.de = L'.de -> (L.ro = false \/ L'.ro = false) -> False := by
  intro b c L L' hb hc h1 h2 h3 h4 xl qY
  have FV := old b L hb h1
  have V9 : Live Mm b := by unfold Live at *; rwa [EG b hb] at h3
  have h4' : Live me c := by unfold Live at *; rwa [EE c hc] at h4
  have s1 := side (hR.de b L FV) V9
  have s2 := side (WY.de c L' h2) h4'
  have both : L.ro = false /\ L'.ro = false := by
   cases e1 : L.ro <;> cases e2 : L'.ro
   ·exact ⟨rfl, rfl⟩
   ·have a1 := s1.1 e1; have a2 := s2.2 e2; omega
   ·have a1 := s1.2 e1; have a2 := s2.1 e2; omega
   ·rcases qY with h | h
    ·rw [e1] at h; cases h
    ·rw [e2] at h; cases h
  obtain ⟨a1, a2⟩ := apart b L hb FV V9 both.1
  exact a2 (hs.K6 L.de a1 ⟨c, L', h2, h4', both.2, xl.symm⟩)
 refine ⟨⟨fun b L hb => by rw [h2n]; exact WY.lt b L hb, ?_, ?_, WY.base, ?_⟩, ⟨eo.ext.trans hs.ext, ?_, ?_, ?_, ?_, pN eo.size hs.size, ?_, ?_, hs.os.trans eo.os, hs.tape.trans eo.tape, hs.output.trans eo.output⟩⟩
 ·intro b L hb
  by_cases IP : b ∈ l
  ·rw [EG b IP]
   have hL := old b L IP hb
   by_cases hd : Mm.get b = .dead
   ·rw [hd]; trivial
   ·have hB := hR.de b L hL
    refine hB.of_heap hs.ext ?_
    cases qY : L.ro with
    | false => obtain ⟨a1, a2⟩ := apart b L IP hL hd qY; exact hs.kept L.de a1 a2
    | true =>
     refine hs.kept L.de (hB.lt hd) ?_
     rintro ⟨c, Mc, hc, LP, Vy, xl⟩
     have oQ : c ∉ l := fun h => LP (hl c h).2.2
     have VN : Live Mm c := by
      rcases Zd c Mc hc oQ with e | e
      ·unfold Live at *; rwa [e] at LP
      ·exact absurd e LP
     have s1 := (side hB hd).2 qY
     have s2 := (side (hR.de c Mc hc) VN).1 Vy
     omega
  ·rw [EE b IP]; exact WY.de b L hb
 ·intro b c L L' h1 h2 h3 h4 qY xl
  by_cases hb : b ∈ l <;> by_cases hc : c ∈ l
  ·exact hR.inj b c L L' (old b L hb h1) (old c L' hc h2) (by unfold Live at *; rwa [EG b hb] at h3) (by unfold Live at *; rwa [EG c hc] at h4) qY xl
  ·exact (mix b c L L' hb hc h1 h2 h3 h4 xl (.inl qY)).elim
  ·exact (mix c b L' L hc hb h2 h1 h4 h3 xl.symm (.inr qY)).elim
  ·exact WY.inj b c L L' h1 h2 (by unfold Live at *; rwa [EE b hb] at h3) (by unfold Live at *; rwa [EE c hc] at h4) qY xl
 ·intro b hb
  rw [h2n] at hb;have IP : b ∉ l := fun h => by have := (hl b h).2.1; have := hs.next; omega
  rw [EE b IP]; exact WY.clean b hb
 ·intro b h0 h1
  cases e : ρ b with
  | some L => exact eo.new b h0 (by rw [e]; simp)
  | none => exact pN Fx (hs.new b e h1)
 ·rw [h2n]; exact pN Fx hs.next
 ·intro b hb h0
  have IP : b ∉ l := fun h => by have := (hl b h).1; omega
  have hρ : ρ b = none := by
   cases e : ρ b with
   | none => rfl
   | some L => have := eo.new b h0 (by rw [e]; simp); omega
  rw [EE b IP, hs.same b (mn hb Fx) hρ, XZ b hb, eo.same b hb h0]
 ·intro b hb hd
  have IP : b ∉ l := fun h => by have := (hl b h).1; omega
  rw [EE b IP];exact hs.dead b (mn hb Fx) (by rw [XZ b hb]; exact eo.dead b hb hd)
 ·rintro i hi ⟨b, L, h1, h2, h3, h4⟩
  by_cases hb : b ∈ l
  ·exact eo.K6 i hi ⟨b, L, old b L hb h1, by unfold Live at *; rwa [EG b hb] at h2, h3, h4⟩
  ·obtain ⟨c, Lc, c1, c2, c3, c4⟩ := hs.K6 i (mn hi eo.size) ⟨b, L, h1, by unfold Live at *; rwa [EE b hb] at h2, h3, h4⟩
   have oQ : c ∉ l := fun h => c2 (hl c h).2.2
   refine eo.K6 i hi ⟨c, Lc, c1, ?_, c3, c4⟩
   rcases Zd c Lc c1 oQ with e | e
   ·unfold Live at *; rwa [e] at c2
   ·exact absurd e c2
 ·intro i hi hr
  rw [hs.kept i (mn hi eo.size), eo.kept i hi hr]
  rintro ⟨c, Lc, c1, c2, c3, c4⟩
  have oQ : c ∉ l := fun h => c2 (hl c h).2.2
  refine hr (eo.K6 i hi ⟨c, Lc, c1, ?_, c3, c4⟩)
  rcases Zd c Lc c1 oQ with e | e
  ·unfold Live at *; rwa [e] at c2
  ·exact absurd e c2
theorem OY {base : Nat} {ρ0 ρ ρ' : ev} {m0 Mm : Mem} {w0 w w' : World} {k : Nat} {B : fK} (hR : R base ρ Mm w) (eo : Step ρ0 m0 w0 ρ Mm w) (JM : m0.next <= k) (hk : k < Mm.next) (hm : Made base ρ ⟨k, Mm.gH⟩ w ρ' B w') :
  R base ρ' ⟨Mm.next, Mm.gH.set k B⟩ w' /\ Step ρ0 m0 w0 ρ' ⟨Mm.next, Mm.gH.set k B⟩ w' := by
 have hg : ∀ b, (⟨Mm.next, Mm.gH.set k B⟩ : Mem).get b = if b = k then B else Mm.get b := fun b => by
  unfold Mem.get; simp only [Tr.bW]; split <;> rfl
 have uA : ∀ b, ((⟨k, Mm.gH⟩ : Mem).new B).get b = if b = k then B else Mm.get b := fun b => by rw [Mem.fq]; rfl
 have VX : ∀ b, b ≠ k -> ρ' b = ρ b := fun b hb => hm.YE b hb
 refine ⟨⟨?_, ?_, ?_, hm.base, ?_⟩, ⟨eo.ext.trans hm.ext, ?_, eo.next, ?_, ?_, by have := eo.size; have := hm.size; omega, ?_, ?_, hm.os.trans eo.os, hm.tape.trans eo.tape, hm.output.trans eo.output⟩⟩
 ·intro b L hb
  by_cases e : b = k
  ·rw [e]; exact hk
  ·rw [VX b e] at hb; exact hR.lt b L hb
 ·intro b L hb
  rw [hg, <- uA]; exact hm.de b L hb
 ·intro b c L L' h1 h2 h3 h4
  exact hm.inj b c L L' h1 h2 (by unfold Live at *; rw [uA] ; rwa [hg] at h3) (by unfold Live at *; rw [uA]; rwa [hg] at h4)
 ·intro b hb
  have hb : Mm.next <= b := hb
  rw [hg, if_neg (by omega)]; exact hR.clean b hb
 ·intro b h0 h1
  by_cases e : b = k
  ·rw [e]; exact JM
  ·rw [VX b e] at h1; exact eo.new b h0 h1
 ·intro b hb h0
  rw [hg, if_neg (by omega)]; exact eo.same b hb h0
 ·intro b hb hd
  rw [hg, if_neg (by omega)]; exact eo.dead b hb hd
 ·rintro i hi ⟨b, L, h1, h2, h3, h4⟩
  by_cases e : b = k
  ·subst e
   obtain ⟨L0, q1, q2⟩ := hm.loc
   have : ρ' b = some L0 := q1
   rw [this] at h1; cases h1
   have := eo.size
   omega
  ·rw [VX b e] at h1
   exact eo.K6 i hi ⟨b, L, h1, by unfold Live at *; rwa [hg, if_neg e] at h2, h3, h4⟩
 ·intro i hi hr
  rw [hm.old i (mn hi eo.size), eo.kept i hi hr]
end
end Go.Proofs.YtdiccmapankckaaDoor.Ev
