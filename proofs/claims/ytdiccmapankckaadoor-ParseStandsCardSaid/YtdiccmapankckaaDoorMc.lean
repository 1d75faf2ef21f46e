/- EvDrawEnd, EvCode, EvF0, EvF1. -/
import Derived.Scope
import Derived.Recover
import Derived.KernelRfl
import Derived.Test.YtdiccmapankckaaDoorChecked
import Derived.Test.YtdiccmapankckaaDoorMb
set_option linter.unusedSimpArgs false
set_option linter.unusedVariables false
set_option linter.unusedSectionVars false
set_option linter.defProp false
set_option maxRecDepth 20000
set_option maxHeartbeats 8000000
namespace Go.Proofs.YtdiccmapankckaaDoor.Ev
open Go
section
section
variable {P : Program} {G : List Nat} {n : Nat} {call : Call}
theorem Qi (op : lL) : cZ op <= 3 := by
 cases op <;> simp [cZ]
 case conv c x => cases c <;> simp
theorem Cp (op : AD) : sort op <= 3 := by
 cases op <;> simp only [sort] <;> first | exact Qi _ | omega
theorem EB {f : aZ -> EV} {op : lL} (hs : cZ op = 1) {m m1 : Mem} {v : EV} (h : aF f op m = some (.val v m1)) : ∃ (B : fM) (mk : Nat -> EV), v = mk m.next /\ m1 = m.new B /\ ∀ m', aF f op m' = some (.val (mk m'.next) (m'.new B)) := by
 cases op <;> (try simp only [cZ] at hs) <;> (try (simp at hs; done))
 case alloc e z =>
  simp only [aF, bj, R1.val.injEq] at h ⊢
  exact ⟨.cells z z.length e false, fun k => .ptr k 0, h.1.symm, h.2.symm, fun m' => ⟨rfl, rfl⟩⟩
 case box e x =>
  simp only [aF] at h ⊢
  cases hc : (f x).cells with
  | none => simp [hc] at h
  | some cs =>
   simp only [hc, bj, R1.val.injEq] at h ⊢
   exact ⟨.cells cs cs.length e false, fun k => .ptr k 0, h.1.symm, h.2.symm, fun m' => ⟨rfl, rfl⟩⟩
 case bB e s len z ps =>
  simp only [aF] at h ⊢
  cases hc : fu (eE len z) (ps.map fun p => (p.1 * s, s, f p.2)) with
  | none => simp [hc] at h
  | some cs =>
   simp only [hc, bj, R1.val.injEq] at h ⊢
   exact ⟨.cells cs s e false, fun k => .slice k 0 len (some len), h.1.symm, h.2.symm, fun m' => ⟨rfl, rfl⟩⟩
 case uZ =>
  simp only [aF, bj, R1.val.injEq] at h ⊢
  exact ⟨.map [], fun k => .map k, h.1.symm, h.2.symm, fun m' => ⟨rfl, rfl⟩⟩
 case lU e s z l c =>
  simp only [aF, Bool.cond_eq_ite] at h ⊢
  generalize f l = el at h ⊢
  generalize f c = ec at h ⊢
  split at h
  ·rename_i ln cn
   split at h
   ·rename_i hq
    split at h
    ·rename_i hq2
     simp only [bj, R1.val.injEq] at h;exact ⟨.cells (eE cn z) s e false, fun k => .slice k 0 ln (some cn), h.1.symm, h.2.symm, fun m' => by rw [if_pos hq, if_pos hq2]⟩
    ·cases h
   ·cases h
  ·cases h
 case conv c x =>
  cases c <;> (try (simp at hs; done))
  rename_i e
  simp only [aF] at h ⊢
  have h1 := lO h
  generalize f x = ex at h1 ⊢
  cases ex <;> simp only [li, reduceCtorEq, bj, eQ] at h1
  rename_i s
  exact ⟨.cells (s.map fun b => .int .u8 (b.toNat : Int)) 1 e false, fun k => .slice k 0 s.length none, h1.1.symm, h1.2.symm, fun m' => rfl⟩
theorem QZ {m : Mem} {agg : Option Nat} {x v : EV} (hf : GF x = false) (h : m.load agg x = some v) : ∃ b off, x = .ptr b off /\ m.get b ≠ .dead := by
 cases x <;> simp only [Mem.load, reduceCtorEq] at h
 case fL => simp [GF] at hf
 rename_i b off
 refine ⟨b, off, rfl, fun e => ?_⟩
 rw [e] at h
 cases h
theorem Q0 {o : Oper} {io : lL} (hc : UK P G o = some io) (hs : cZ io = 2) : ∃ agg x x0, io = .load agg x /\ ff G x0 = some x := by
 unfold UK at hc
 split at hc
 case h_1 => obtain ⟨_, _, rfl⟩ := ag hc; simp [cZ] at hs
 case h_2 => obtain ⟨_, _, rfl⟩ := ag hc; simp [cZ] at hs
 case h_3 => obtain ⟨_, _, hc⟩ := af hc; obtain ⟨_, _, hc⟩ := af hc; obtain ⟨_, _, rfl⟩ := ag hc; simp [cZ] at hs
 case h_4 => obtain ⟨_, _, rfl⟩ := ag hc; simp [cZ] at hs
 case h_5 => obtain ⟨_, _, rfl⟩ := ag hc; simp [cZ] at hs
 case h_6 =>
  obtain ⟨_, _, hc⟩ := af hc
  rcases fX hc with hc | hc
  ·obtain ⟨_, _, hc⟩ := af hc; obtain ⟨_, _, hc⟩ := af hc; obtain ⟨_, _, rfl⟩ := ag hc; simp [cZ] at hs
  ·obtain ⟨_, _, hc⟩ := af hc; obtain ⟨_, _, hc⟩ := af hc; obtain ⟨_, _, rfl⟩ := ag hc; simp [cZ] at hs
 case h_7 => obtain ⟨_, _, hc⟩ := af hc; obtain ⟨_, _, hc⟩ := af hc; obtain ⟨_, _, hc⟩ := af hc; obtain ⟨_, _, hc⟩ := af hc; obtain ⟨_, _, hc⟩ := af hc; obtain ⟨_, _, rfl⟩ := ag hc; simp [cZ] at hs
 case h_8 => obtain ⟨_, _, hc⟩ := af hc; obtain ⟨x, hx, rfl⟩ := ag hc; exact ⟨_, x, _, rfl, hx⟩
 case h_9 => obtain ⟨_, _, hc⟩ := af hc; obtain ⟨_, _, hc⟩ := af hc; obtain ⟨_, _, rfl⟩ := ag hc; simp [cZ] at hs
 case h_10 => obtain ⟨_, _, rfl⟩ := ag hc; simp [cZ] at hs
 case h_11 op t x y yt ho =>
  obtain ⟨_, _, hc⟩ := af hc; obtain ⟨_, _, hc⟩ := af hc
  split at hc
  ·unfold UL at hc
   simp only [Bool.cond_eq_ite] at hc
   split at hc <;> (obtain ⟨_, _, rfl⟩ := ag hc; simp [cZ] at hs)
  ·unfold UL at hc
   simp only [Bool.cond_eq_ite] at hc
   split at hc <;> (obtain ⟨_, _, rfl⟩ := ag hc; simp [cZ] at hs)
  ·cases hc; simp [cZ] at hs
 case h_12 => obtain ⟨_, _, rfl⟩ := ag hc; simp [cZ] at hs
 case h_13 =>
  obtain ⟨_, _, hc⟩ := af hc
  rcases fX hc with hc | hc
  ·obtain ⟨_, _, hc⟩ := af hc; obtain ⟨_, _, rfl⟩ := ag hc; simp [cZ] at hs
  rcases fX hc with hc | hc
  ·obtain ⟨_, _, hc⟩ := af hc; obtain ⟨_, _, rfl⟩ := ag hc; simp [cZ] at hs
  rcases fX hc with hc | hc
  ·obtain ⟨_, _, hc⟩ := af hc; obtain ⟨_, _, hc⟩ := af hc; obtain ⟨_, _, hc⟩ := af hc; obtain ⟨_, _, rfl⟩ := ag hc; simp [cZ] at hs
  obtain ⟨_, _, hc⟩ := af hc; obtain ⟨_, _, hc⟩ := af hc; obtain ⟨_, _, hc⟩ := af hc; obtain ⟨_, _, rfl⟩ := ag hc; simp [cZ] at hs
 case h_14 => obtain ⟨_, _, hc⟩ := af hc; obtain ⟨_, _, rfl⟩ := ag hc; simp [cZ] at hs
 case h_15 => obtain ⟨_, _, hc⟩ := af hc; obtain ⟨_, _, rfl⟩ := ag hc; simp [cZ] at hs
 case h_16 => obtain ⟨_, _, rfl⟩ := ag hc; simp [cZ] at hs
 case h_17 => obtain ⟨_, _, rfl⟩ := ag hc; simp [cZ] at hs
 case h_18 => obtain ⟨_, _, hc⟩ := af hc; obtain ⟨_, _, hc⟩ := af hc; obtain ⟨_, _, hc⟩ := af hc; obtain ⟨_, _, hc⟩ := af hc; obtain ⟨_, _, hc⟩ := af hc; obtain ⟨_, _, hc⟩ := af hc; obtain ⟨_, _, rfl⟩ := ag hc; simp [cZ] at hs
 case h_19 =>
  obtain ⟨_, _, hc⟩ := af hc; obtain ⟨_, _, hc⟩ := af hc; obtain ⟨_, _, hc⟩ := af hc; obtain ⟨_, _, hc⟩ := af hc; obtain ⟨_, _, hc⟩ := af hc
  rcases fX hc with hc | hc
  ·obtain ⟨_, _, hc⟩ := af hc; obtain ⟨_, _, rfl⟩ := ag hc; simp [cZ] at hs
  rcases fX hc with hc | hc
  ·obtain ⟨_, _, hc⟩ := af hc; obtain ⟨_, _, rfl⟩ := ag hc; simp [cZ] at hs
  ·obtain ⟨_, _, hc⟩ := af hc; obtain ⟨_, _, rfl⟩ := ag hc; simp [cZ] at hs
 case h_20 => obtain ⟨_, _, hc⟩ := af hc; obtain ⟨_, _, hc⟩ := af hc; obtain ⟨_, _, hc⟩ := af hc; obtain ⟨_, _, hc⟩ := af hc; obtain ⟨_, _, rfl⟩ := ag hc; simp [cZ] at hs
 case h_21 => obtain ⟨_, _, hc⟩ := af hc; obtain ⟨_, _, hc⟩ := af hc; obtain ⟨_, _, hc⟩ := af hc; obtain ⟨_, _, rfl⟩ := ag hc; simp [cZ] at hs
 case h_22 =>
  obtain ⟨_, _, hc⟩ := af hc; obtain ⟨_, _, hc⟩ := af hc
  rcases fX hc with hc | hc
  ·obtain ⟨_, _, hc⟩ := af hc; obtain ⟨_, _, rfl⟩ := ag hc; simp [cZ] at hs
  ·obtain ⟨_, _, hc⟩ := af hc; obtain ⟨_, _, rfl⟩ := ag hc; simp [cZ] at hs
 case h_23 =>
  obtain ⟨_, _, hc⟩ := af hc; obtain ⟨_, _, hc⟩ := af hc
  rcases fX hc with hc | hc
  ·obtain ⟨_, _, rfl⟩ := ag hc; simp [cZ] at hs
  ·obtain ⟨_, _, hc⟩ := af hc; obtain ⟨_, _, hc⟩ := af hc; obtain ⟨_, _, rfl⟩ := ag hc; simp [cZ] at hs
 case h_24 => obtain ⟨_, _, hc⟩ := af hc; obtain ⟨_, _, hc⟩ := af hc; obtain ⟨_, _, hc⟩ := af hc; obtain ⟨_, _, hc⟩ := af hc; obtain ⟨_, _, rfl⟩ := ag hc; simp [cZ] at hs
 case h_25 => obtain ⟨_, _, hc⟩ := af hc; obtain ⟨_, _, hc⟩ := af hc; obtain ⟨_, _, hc⟩ := af hc; obtain ⟨_, _, hc⟩ := af hc; obtain ⟨_, _, rfl⟩ := ag hc; simp [cZ] at hs
 case h_26 => obtain ⟨_, _, hc⟩ := af hc; obtain ⟨_, _, hc⟩ := af hc; obtain ⟨_, _, hc⟩ := af hc; obtain ⟨_, _, hc⟩ := af hc; obtain ⟨_, _, rfl⟩ := ag hc; simp [cZ] at hs
 case h_27 => obtain ⟨_, _, hc⟩ := af hc; obtain ⟨_, _, rfl⟩ := ag hc; simp [cZ] at hs
 case h_28 => obtain ⟨_, _, rfl⟩ := ag hc; simp [cZ] at hs
 case h_29 c ho =>
  obtain ⟨ys, Rj, hc⟩ := af hc
  split at hc
  ·exfalso
   unfold vu at hc;simp only [Bool.cond_eq_ite] at hc
   split at hc
   ·split at hc <;> first | (cases hc; simp [cZ] at hs; done) | cases hc
   ·split at hc <;> first | (cases hc; simp [cZ] at hs; done) | cases hc
   ·cases hc; simp [cZ] at hs
   ·cases hc; simp [cZ] at hs
   ·obtain ⟨_, _, hc⟩ := af hc
    obtain ⟨_, _, hc⟩ := af hc
    obtain ⟨_, _, hc⟩ := af hc
    obtain ⟨_, _, hc⟩ := af hc
    obtain ⟨_, _, hc⟩ := af hc
    split at hc <;> first | (cases hc; simp [cZ] at hs; done) | cases hc
   ·split at hc
    ·split at hc <;> first | (cases hc; simp [cZ] at hs; done) | cases hc
    ·cases hc
   ·split at hc
    ·obtain ⟨_, _, rfl⟩ := ag hc; simp [cZ] at hs
    ·cases hc
   ·cases hc
  ·cases hc
 case h_30 => cases hc
theorem OQ {o : bd} {x : aZ} (hx : x ∈ pd o.op) : ∀ t, x = .tmp t -> t ∈ named o := by
 intro t ht
 subst ht;unfold named;have : t ∈ tmpsOf (pd o.op) := by
  generalize pd o.op = l at hx
  induction l with
  | nil => simp at hx
  | cons y l ih =>
   rcases o6.1 hx with e | YP
   ·subst e; simp [tmpsOf]
   ·cases y with
    | tmp s => simp only [tmpsOf]; exact AA _ (ih YP)
    | const v => simp only [tmpsOf]; exact ih YP
 simp [this]
theorem Jo {o : bd} {t : Nat} {b : Bool} (h : o.guard = some (t, b)) : t ∈ named o := by unfold named; simp [h]
theorem OR {o : bd} {t : Nat} (h : o.dst = some t) : t ∈ named o := by unfold named; simp [h]
structure Cx (P : Program) (G : List Nat) (n : Nat) (call : Call) (ops : Array Oper) (is : List bd) (chk : List (Nat × Nat)) (B0 : Nat) (F : Nat -> Fr) (M : Nat -> Mem) (V : Nat -> EV) : Prop where
 comp : ∀ (i : Nat) (io : bd), is[i]? = some io -> ∃ o, ops[i]? = some o /\ uv P G n ops o = some io
 at_ : ∀ (k : Nat) (o : bd), is[k]? = some o -> At call B0 o k (F k) (M k) (V k) (M (k + 1)) /\ F (k + 1) = (F k).put o.dst (V k)
 c1 : ∀ (k : Nat) (o : bd) (agg : Option Nat) (a : aZ) (l : Nat) (q : bd), is[k]? = some o -> is[l]? = some q -> Fv o (F k) agg a -> ob q (F l) -> bX k l chk = true ->
  (l < k -> (M l).eL agg ((F k).eval a) (V k) = true) /\ (k < l -> (M (l + 1)).eL agg ((F k).eval a) (V k) = true)
 open_ : ∀ (i j : Nat) (io jo : bd), i < j -> is[i]? = some io -> is[j]? = some jo -> i ∉ (fx ops.toList []).getD j [] ->
  ¬ (sort io.op = 3 /\ sort jo.op = 3) /\ (∀ t, io.dst = some t -> t ∉ named jo) /\ (∀ t, jo.dst = some t -> t ∉ named io) /\ (sort io.op = 2 -> sort jo.op = 3 -> bX i j chk = true) /\ (sort io.op = 3 -> sort jo.op = 2 -> bX j i chk = true)
variable {ops : Array Oper} {is : List bd} {chk : List (Nat × Nat)} {B0 : Nat} {F : Nat -> Fr} {M : Nat -> Mem} {V : Nat -> EV}
def Ad (is : List bd) (F : Nat -> Fr) (V : Nat -> EV) (S : List Nat) (t : Nat) : Nat -> EV
 | 0 => (F 0).get t
 | k + 1 => if k ∈ S /\ (is[k]?).bind (·.dst) = some t then V k else Ad is F V S t k
theorem Ba (C : Cx P G n call ops is chk B0 F M V) (S : List Nat) (t : Nat) : ∀ k, k <= is.length -> (∀ j o, j < k -> is[j]? = some o -> o.dst = some t -> j ∈ S) -> Ad is F V S t k = (F k).get t
 | 0, _, _ => rfl
 | k + 1, hk, h => by
  have bg : k < is.length := by omega
  have ho : is[k]? = some is[k] := lp bg
  obtain ⟨_, hF⟩ := C.at_ k _ ho
  simp only [Ad, ho, Option.bind_some];rw [hF];by_cases hd : is[k].dst = some t
  ·rw [if_pos ⟨h k _ (by omega) ho hd, hd⟩, hd]
   simp only [Fr.put, Fr.bY, if_true]
  ·rw [if_neg (fun e => hd e.2), Ba C S t k (by omega) (fun j o hj => h j o (by omega))]
   cases XS : is[k].dst with
   | none => rfl
   | some u =>
    simp only [Fr.put, Fr.bY];rw [if_neg];intro e; subst e; exact hd XS
theorem Bb (S : List Nat) (t : Nat) : ∀ d k, (∀ j o, k <= j -> j < k + d -> is[j]? = some o -> o.dst = some t -> j ∉ S) -> Ad is F V S t (k + d) = Ad is F V S t k
 | 0, k, _ => rfl
 | d + 1, k, h => by
  rw [<- Nat.add_assoc];simp only [Ad];rw [if_neg]
  ·exact Bb S t d k fun j o h1 h2 => h j o h1 (by omega)
  ·rintro ⟨h1, h2⟩
   cases ho : is[k + d]? with
   | none => rw [ho] at h2; cases h2
   | some o => rw [ho] at h2; exact h (k + d) o (by omega) (by omega) ho h2 h1
theorem GY {S S' : List Nat} (t : Nat) : ∀ k, (∀ j o, j < k -> is[j]? = some o -> o.dst = some t -> (j ∈ S ↔ j ∈ S')) -> Ad is F V S t k = Ad is F V S' t k
 | 0, _ => rfl
 | k + 1, h => by
  simp only [Ad];rw [GY t k fun j o hj => h j o (by omega)]
  cases ho : is[k]? with
  | none => simp
  | some o =>
   simp only [Option.bind_some];by_cases hd : o.dst = some t
   ·have := h k o (by omega) ho hd
    by_cases hk : k ∈ S
    ·rw [if_pos ⟨hk, hd⟩, if_pos ⟨this.1 hk, hd⟩]
    ·rw [if_neg (fun e => hk e.1), if_neg (fun e => hk (this.2 e.1))]
   ·rw [if_neg (fun e => hd e.2), if_neg (fun e => hd e.2)]
def gT (is : List bd) (B0 : Nat) (F : Nat -> Fr) (M : Nat -> Mem) (j : Nat) (B : fM) : Prop :=
 ∃ o op, is[j]? = some o /\ o.op = .val op /\ cZ op = 1 /\ bm (F j) o.guard = some true /\ M (j + 1) = ⟨(M j).next, (M j).gM.set (B0 + j) B⟩
theorem Cs (m : Mem) (k : Nat) (B : fM) (b : Nat) : (⟨m.next, m.gM.set k B⟩ : Mem).get b = if b = k then B else m.get b := by
 unfold Mem.get; simp only [Tr.bY]; split <;> rfl
theorem gT.get {j : Nat} {B : fM} (h : gT is B0 F M j B) : (M (j + 1)).get (B0 + j) = B := by
 obtain ⟨_, _, _, _, _, _, h⟩ := h
 rw [h, Cs, if_pos rfl]
theorem gT.SI {j : Nat} {B B' : fM} (h : gT is B0 F M j B) (h' : gT is B0 F M j B') : B = B' := h.get.symm.trans h'.get
theorem gT.no {j : Nat} {B : fM} (h : gT is B0 F M j B) {o : bd} (ho : is[j]? = some o) (ha : ob o (F j)) : False := by
 obtain ⟨o', op, h1, h2, h3, _⟩ := h
 rw [ho] at h1; cases h1
 have := ha.2
 rw [h2] at this;simp only [sort] at this;omega
theorem K9 (C : Cx P G n call ops is chk B0 F M V) {k : Nat} {o : bd} (ho : is[k]? = some o) (TB : ¬ ob o (F k)) : (M (k + 1) = M k /\ ∀ B, ¬ gT is B0 F M k B) \/ ∃ B, gT is B0 F M k B := by
 obtain ⟨PU, _⟩ := C.at_ k o ho
 cases PU with
 | skip hw _ hm => exact .inl ⟨hm, fun B ⟨o', op, h1, h2, h3, h4, _⟩ => by rw [ho] at h1; cases h1; rw [hw] at h4; cases h4⟩
 | pure op m1 hw lJ hs _ hm => exact .inl ⟨hm, fun B ⟨o', Zq, h1, h2, h3, h4, _⟩ => by rw [ho] at h1; cases h1; rw [lJ] at h2; cases h2; omega⟩
 | load agg a hw lJ _ hm => exact .inl ⟨hm, fun B ⟨o', Zq, h1, h2, h3, h4, _⟩ => by rw [ho] at h1; cases h1; rw [lJ] at h2; cases h2; simp [cZ] at h3⟩
 | make op m1 hw lJ hs h hm =>
  obtain ⟨B, mk, _, h2, _⟩ := EB hs h
  exact .inr ⟨B, o, op, ho, lJ, hs, hw, by rw [hm, h2]; rfl⟩
 | act op hw lJ hs h => exact absurd ⟨hw, by rw [lJ]; exact hs⟩ TB
 | call f args hw lJ h => exact absurd ⟨hw, by rw [lJ]; simp [sort]⟩ TB
theorem seg (C : Cx P G n call ops is chk B0 F M V) (K : Nat) : ∀ i, K <= i -> i <= is.length -> (∀ e o, K <= e -> e < i -> is[e]? = some o -> ¬ ob o (F e)) ->
  (M i).next = (M K).next /\ ∀ b, (∃ j B, K <= j /\ j < i /\ gT is B0 F M j B /\ b = B0 + j /\ (M i).get b = B) \/ ((∀ j B, K <= j -> j < i -> gT is B0 F M j B -> b ≠ B0 + j) /\ (M i).get b = (M K).get b) := by
 intro i
 induction i with
 | zero => intro h _ _; obtain rfl : K = 0 := (by omega); exact ⟨rfl, fun b => .inr ⟨fun j B h1 h2 => absurd h2 (by omega), rfl⟩⟩
 | succ i ih =>
  intro h1 h2 h3
  by_cases hK : K = i + 1
  ·subst hK; exact ⟨rfl, fun b => .inr ⟨fun j B h1 h2 => absurd h2 (by omega), rfl⟩⟩
  ·obtain ⟨hn, hb⟩ := ih (by omega) (by omega) (fun e o he WJ => h3 e o he (by omega))
   have bg : i < is.length := by omega
   have ho : is[i]? = some is[i] := lp bg
   rcases K9 C ho (h3 i _ (by omega) (by omega) ho) with ⟨e, mS⟩ | ⟨B, hB⟩
   ·rw [e]
    refine ⟨hn, fun b => ?_⟩
    rcases hb b with ⟨j, B, q1, q2, q3, q4, q5⟩ | ⟨q1, q2⟩
    ·exact .inl ⟨j, B, q1, by omega, q3, q4, q5⟩
    ·refine .inr ⟨fun j B j1 j2 hj => ?_, q2⟩
     by_cases SE : j < i
     ·exact q1 j B j1 SE hj
     ·obtain rfl : j = i := by omega
      exact absurd hj (mS B)
   ·have TK := hB
    obtain ⟨_, _, _, _, _, _, hM⟩ := TK
    rw [hM];refine ⟨hn, fun b => ?_⟩
    rw [Cs];by_cases Y2 : b = B0 + i
    ·exact .inl ⟨i, B, by omega, by omega, hB, Y2, by rw [if_pos Y2]⟩
    ·rw [if_neg Y2]
     rcases hb b with ⟨j, B', q1, q2, q3, q4, q5⟩ | ⟨q1, q2⟩
     ·exact .inl ⟨j, B', q1, by omega, q3, q4, q5⟩
     ·refine .inr ⟨fun j B' j1 j2 hj => ?_, q2⟩
      by_cases SE : j < i
      ·exact q1 j B' j1 SE hj
      ·obtain rfl : j = i := by omega
       exact Y2
structure Inv (n : Nat) (ops : Array Oper) (is : List bd) (B0 : Nat) (F : Nat -> Fr) (M : Nat -> Mem) (V : Nat -> EV) (base : Nat) (ρ0 : eF) (m0 : Mem) (w0 : World) (S : List Nat) (K : Nat) (ρ : eF) (Mm : Mem) (uG : Fr) (a : Act) (w : World) : Prop where
 b0 : m0.next = B0
 sub : ∀ i, i ∈ S -> i < is.length
 WU : ∀ j, j ∈ S -> ∀ i, i ∈ (fx ops.toList []).getD j [] -> i ∈ S
 F9 : ∀ (e : Nat) (o : bd), is[e]? = some o -> ob o (F e) -> (e ∈ S ↔ e < K)
 last : K = 0 \/ ∃ e o, K = e + 1 /\ is[e]? = some o /\ ob o (F e)
 hR : R base ρ Mm w
 nx : Mm.next = (M K).next
 Wr : B0 + is.length <= (M K).next
 RO : ∀ (j : Nat) (B : fM), gT is B0 F M j B -> j ∈ S -> K <= j -> Mm.get (B0 + j) = B
 Pj : ∀ b, (∀ (j : Nat) (B : fM), gT is B0 F M j B -> j ∈ S -> K <= j -> b ≠ B0 + j) -> Mm.get b = (M K).get b
 un : ∀ j, j < is.length -> ρ (B0 + j) ≠ none -> j ∈ S
 late : ∀ (j : Nat) (B : fM), gT is B0 F M j B -> j < K -> j ∉ S -> (M K).get (B0 + j) = B
 dd : ∀ j, K <= j -> j < is.length -> (M K).get (B0 + j) = .dead
 st : Step ρ0 m0 w0 ρ Mm w
 fr : B7 ρ n uG a
 cur : ∀ t, uG.get t = Ad is F V S t is.length
 df : uG.defers = (F 0).defers
section
variable {base : Nat} {ρ0 ρ : eF} {m0 Mm : Mem} {w0 w : World} {S : List Nat} {K : Nat} {uG : Fr} {a : Act}
theorem Inv.kN (I : Inv n ops is B0 F M V base ρ0 m0 w0 S K ρ Mm uG a w) : K <= is.length := by
 rcases I.last with h | ⟨e, o, h, ho, _⟩
 ·omega
 ·have := (rn.1 ho).1; omega
theorem gT.lt {j : Nat} {B : fM} (h : gT is B0 F M j B) : j < is.length := by
 obtain ⟨o, _, ho, _⟩ := h
 exact (rn.1 ho).1
theorem Inv.wk (C : Cx P G n call ops is chk B0 F M V) (I : Inv n ops is B0 F M V base ρ0 m0 w0 S K ρ Mm uG a w) {i : Nat} (h1 : K <= i) (h2 : i <= is.length) (h3 : ∀ e o, K <= e -> e < i -> is[e]? = some o -> ¬ ob o (F e)) :
  (M i).next = (M K).next /\ (∀ b L, ρ b = some L -> (M i).get b = Mm.get b \/ (M i).get b = .dead) /\ (∀ b, (∀ j, j < is.length -> b ≠ B0 + j) -> (M i).get b = Mm.get b) /\
   (∀ j, i <= j -> j < is.length -> (M i).get (B0 + j) = .dead) /\ (∀ j B, gT is B0 F M j B -> j < i -> j ∉ S -> (M i).get (B0 + j) = B) := by
 obtain ⟨hn, hb⟩ := seg C K i h1 h2 h3
 refine ⟨hn, fun b L hL => ?_, fun b mS => ?_, fun j j1 j2 => ?_, fun j B hj j1 j2 => ?_⟩
 ·rcases hb b with ⟨j, B, q1, q2, q3, q4, q5⟩ | ⟨q1, q2⟩
  ·left
   rw [q5, q4];exact (I.RO j B q3 (I.un j q3.lt (by rw [<- q4, hL]; simp)) q1).symm
  ·by_cases hp : ∃ j B, gT is B0 F M j B /\ j ∈ S /\ K <= j /\ b = B0 + j
   ·obtain ⟨j, B, p1, p2, p3, p4⟩ := hp
    right
    rw [q2, p4];exact I.dd j p3 p1.lt
   ·left
    rw [q2];exact (I.Pj b fun j B p1 p2 p3 p4 => hp ⟨j, B, p1, p2, p3, p4⟩).symm
 ·rcases hb b with ⟨j, B, q1, q2, q3, q4, q5⟩ | ⟨q1, q2⟩
  ·exact absurd q4 (mS j q3.lt)
  ·rw [q2]
   exact (I.Pj b fun j B p1 _ _ => mS j p1.lt).symm
 ·rcases hb (B0 + j) with ⟨j', B, q1, q2, q3, q4, q5⟩ | ⟨q1, q2⟩
  ·omega
  ·rw [q2]; exact I.dd j (by omega) j2
 ·rcases hb (B0 + j) with ⟨j', B', q1, q2, q3, q4, q5⟩ | ⟨q1, q2⟩
  ·have : j = j' := by omega
   subst this;rw [q5]; exact q3.SI hj
  ·rw [q2]
   by_cases hjK : j < K
   ·exact I.late j B hj hjK j2
   ·exact absurd rfl (q1 j B (by omega) j1 hj)
theorem Inv.val (C : Cx P G n call ops is chk B0 F M V) (I : Inv n ops is B0 F M V base ρ0 m0 w0 S K ρ Mm uG a w) {i : Nat} {o : bd} (ho : is[i]? = some o) (hi : i ∉ S) (hb : ∀ j, j ∈ (fx ops.toList []).getD i [] -> j ∈ S) :
  ∀ t, t ∈ named o -> uG.get t = (F i).get t := by
 intro t ht
 have bg := (rn.1 ho).1
 rw [I.cur t, show is.length = i + (is.length - i) by omega, Bb S t _ i, Ba C S t i (by omega)]
 ·intro j q hj hq hd
  apply B9
  intro LV
  exact (C.open_ j i q o hj hq ho (fun h => LV (hb j h))).2.1 t hd ht
 ·intro j q h1 h2 hq hd LV
  by_cases e : j = i
  ·subst e; exact hi LV
  ·exact (C.open_ i j o q (by omega) ho hq (fun h => hi (I.WU j LV i h))).2.2.1 t hd ht
theorem eval_eq {f g : Fr} {o : bd} (h : ∀ t, t ∈ named o -> f.get t = g.get t) : ∀ x, x ∈ pd o.op -> f.eval x = g.eval x := by
 intro x hx
 cases x with
 | const v => rfl
 | tmp t => exact h t (OQ hx t rfl)
theorem IT {f g : Fr} {o : bd} (h : ∀ t, t ∈ named o -> f.get t = g.get t) : bm f o.guard = bm g o.guard := by
 cases hg : o.guard with
 | none => rfl
 | some p =>
  obtain ⟨t, b⟩ := p
  simp only [bm, h t (Jo hg)]
theorem Inv.Io (C : Cx P G n call ops is chk B0 F M V) (I : Inv n ops is B0 F M V base ρ0 m0 w0 S K ρ Mm uG a w) {i : Nat} {o : bd} (ho : is[i]? = some o) (hi : i ∉ S) :
  ∀ t, (uG.put o.dst (V i)).get t = Ad is F V (i :: S) t is.length := by
 intro t
 have bg := (rn.1 ho).1
 by_cases hd : o.dst = some t
 ·rw [hd, show is.length = (i + 1) + (is.length - (i + 1)) by omega, Bb (i :: S) t _ (i + 1)]
  ·simp only [Ad, ho, Option.bind_some]
   rw [if_pos ⟨by simp, hd⟩];simp only [Fr.put, Fr.bY, if_true]
  ·intro j q h1 h2 hq hdq hj
   rcases o6.1 hj with e | LV
   ·omega
   ·exact (C.open_ i j o q (by omega) ho hq (fun h => hi (I.WU j LV i h))).2.1 t hd (OR hdq)
 ·have : (uG.put o.dst (V i)).get t = uG.get t := by
   cases XS : o.dst with
   | none => rfl
   | some u =>
    simp only [Fr.put, Fr.bY];rw [if_neg];intro e; subst e; exact hd XS
  rw [this, I.cur t];refine GY t _ fun j q hj hq hdq => ?_
  constructor
  ·intro h; exact AA _ h
  ·intro h
   rcases o6.1 h with e | h
   ·subst e; rw [ho] at hq; cases hq; exact absurd hdq hd
   ·exact h
theorem Inv.idle (C : Cx P G n call ops is chk B0 F M V) (I : Inv n ops is B0 F M V base ρ0 m0 w0 S K ρ Mm uG a w) {i : Nat} {o : bd} (ho : is[i]? = some o) (hi : i ∉ S) (hb : ∀ j, j ∈ (fx ops.toList []).getD i [] -> j ∈ S)
  (TB : ¬ ob o (F i)) (JN : ∀ B, ¬ gT is B0 F M i B) {ρ1 : eF} {w1 : World} {a1 : Act} (lK : R base ρ1 Mm w1) (hs : Step ρ Mm w ρ1 Mm w1) (hF : B7 ρ1 n (uG.put o.dst (V i)) a1) :
  Inv n ops is B0 F M V base ρ0 m0 w0 (i :: S) K ρ1 Mm (uG.put o.dst (V i)) a1 w1 := by
 have bg := (rn.1 ho).1
 refine ⟨I.b0, ?_, ?_, ?_, I.last, lK, I.nx, I.Wr, ?_, ?_, ?_, ?_, I.dd, I.st.trans hs, hF, I.Io C ho hi, by rw [put_defers]; exact I.df⟩
 ·intro j hj
  rcases o6.1 hj with e | hj
  ·rw [e]; exact bg
  ·exact I.sub j hj
 ·intro j hj k hk
  rcases o6.1 hj with e | hj
  ·rw [e] at hk; exact AA _ (hb k hk)
  ·exact AA _ (I.WU j hj k hk)
 ·intro e q hq hA
  rw [<- I.F9 e q hq hA]
  constructor
  ·intro h
   rcases o6.1 h with e1 | h
   ·subst e1; rw [ho] at hq; cases hq; exact absurd hA TB
   ·exact h
  ·exact AA _
 ·intro j B hj LV hK
  rcases o6.1 LV with e | h
  ·rw [e] at hj; exact absurd hj (JN B)
  ·exact I.RO j B hj h hK
 ·intro b mS
  exact I.Pj b fun j B h1 h2 h3 => mS j B h1 (AA _ h2) h3
 ·intro j hj h1
  refine AA _ (I.un j hj ?_)
  intro h0
  have := hs.new _ h0 h1
  have := I.nx; have := I.Wr
  omega
 ·intro j B hj h1 h2
  exact I.late j B hj h1 fun h => h2 (AA _ h)
theorem Inv.make (C : Cx P G n call ops is chk B0 F M V) (I : Inv n ops is B0 F M V base ρ0 m0 w0 S K ρ Mm uG a w) {i : Nat} {o : bd} (ho : is[i]? = some o) (hi : i ∉ S) (hb : ∀ j, j ∈ (fx ops.toList []).getD i [] -> j ∈ S)
  {B : fM} (hm : gT is B0 F M i B) {ρ1 : eF} {w1 : World} {a1 : Act} (hM : Made base ρ ⟨B0 + i, Mm.gM⟩ w ρ1 B w1) (hF : B7 ρ1 n (uG.put o.dst (V i)) a1) :
  Inv n ops is B0 F M V base ρ0 m0 w0 (i :: S) K ρ1 ⟨Mm.next, Mm.gM.set (B0 + i) B⟩ (uG.put o.dst (V i)) a1 w1 := by
 have bg := (rn.1 ho).1
 obtain ⟨lK, hs⟩ := OX I.hR I.st (by have := I.b0; omega) (by have := I.nx; have := I.Wr; omega) hM
 refine ⟨I.b0, ?_, ?_, ?_, I.last, lK, I.nx, I.Wr, ?_, ?_, ?_, ?_, I.dd, hs, hF, I.Io C ho hi, by rw [put_defers]; exact I.df⟩
 ·intro j hj
  rcases o6.1 hj with e | hj
  ·rw [e]; exact bg
  ·exact I.sub j hj
 ·intro j hj k hk
  rcases o6.1 hj with e | hj
  ·rw [e] at hk; exact AA _ (hb k hk)
  ·exact AA _ (I.WU j hj k hk)
 ·intro e q hq hA
  rw [<- I.F9 e q hq hA]
  constructor
  ·intro h
   rcases o6.1 h with e1 | h
   ·subst e1; exact (hm.no hq hA).elim
   ·exact h
  ·exact AA _
 ·intro j B' hj LV hK
  rw [Cs];by_cases e : j = i
  ·subst e; rw [if_pos rfl]; exact hm.SI hj
  ·rw [if_neg (by omega)]
   rcases o6.1 LV with h | h
   ·exact absurd h e
   ·exact I.RO j B' hj h hK
 ·intro b mS
  rw [Cs];by_cases e : b = B0 + i
  ·rw [if_pos e]
   have hiK : i < K := by
    apply B9
    intro h
    exact mS i B hm (by simp) (by omega) e
   rw [e];exact (I.late i B hm hiK hi).symm
  ·rw [if_neg e]
   exact I.Pj b fun j B h1 h2 h3 => mS j B h1 (AA _ h2) h3
 ·intro j hj h1
  by_cases e : j = i
  ·rw [e]; simp
  ·refine AA _ (I.un j hj ?_)
   rw [<- hM.Yp (B0 + j) (show B0 + j ≠ B0 + i by omega)];exact h1
 ·intro j B' hj h1 h2
  exact I.late j B' hj h1 fun h => h2 (AA _ h)
theorem Inv.next (C : Cx P G n call ops is chk B0 F M V) (I : Inv n ops is B0 F M V base ρ0 m0 w0 S K ρ Mm uG a w) {i : Nat} {o : bd} (ho : is[i]? = some o) (hi : i ∉ S) (hb : ∀ j, j ∈ (fx ops.toList []).getD i [] -> j ∈ S)
  (hA : ob o (F i)) : K <= i /\ ∀ e q, K <= e -> e < i -> is[e]? = some q -> ¬ ob q (F e) := by
 have TH : K <= i := by
  apply B9
  intro h
  exact hi ((I.F9 i o ho hA).2 (by omega))
 refine ⟨TH, fun e q h1 h2 hq Nn => ?_⟩
 have UD : e ∈ S := by
  apply B9
  intro UD
  have := (C.open_ e i q o h2 hq ho (fun h => UD (hb e h))).1
  exact this ⟨Nat.le_antisymm (Cp _) Nn.2, Nat.le_antisymm (Cp _) hA.2⟩
 have := (I.F9 e q hq Nn).1 UD
 omega
theorem Inv.text (C : Cx P G n call ops is chk B0 F M V) (I : Inv n ops is B0 F M V base ρ0 m0 w0 S K ρ Mm uG a w) {i : Nat} (h1 : K <= i) (h2 : i <= is.length) (h3 : ∀ e o, K <= e -> e < i -> is[e]? = some o -> ¬ ob o (F e)) :
  R base ρ (M i) w := by
 obtain ⟨k1, k2, k3, k4, k5⟩ := I.wk C h1 h2 h3
 refine I.hR.weaken (fun b L hb => ?_) k2 (fun b hb => ?_)
 ·rw [k1, <- I.nx]; exact I.hR.lt b L hb
 ·rw [k1] at hb
  rw [k3 b (fun j hj => by have := I.Wr; omega)]
  exact I.hR.clean b (by rw [I.nx]; exact hb)
theorem Inv.act (C : Cx P G n call ops is chk B0 F M V) (I : Inv n ops is B0 F M V base ρ0 m0 w0 S K ρ Mm uG a w) {i : Nat} {o : bd} (ho : is[i]? = some o) (hi : i ∉ S) (hb : ∀ j, j ∈ (fx ops.toList []).getD i [] -> j ∈ S)
  (hA : ob o (F i)) {ρ1 : eF} {w1 : World} {a1 : Act} (lK : R base ρ1 (M (i + 1)) w1) (hs : Step ρ (M i) w ρ1 (M (i + 1)) w1) (hF : B7 ρ1 n (uG.put o.dst (V i)) a1) :
  ∃ M2, Inv n ops is B0 F M V base ρ0 m0 w0 (i :: S) (i + 1) ρ1 M2 (uG.put o.dst (V i)) a1 w1 := by
 have bg := (rn.1 ho).1
 obtain ⟨TH, mS⟩ := I.next C ho hi hb hA
 obtain ⟨k1, k2, k3, k4, k5⟩ := I.wk C TH (Nat.le_of_lt bg) mS
 have Nm := I.b0
 have FC := I.nx
 have afJ := I.Wr
 have JO := hs.next
 let l := (S.filter fun j => decide (i < j)).map fun j => B0 + j
 have hl : ∀ b, b ∈ l ↔ ∃ j, j ∈ S /\ i < j /\ b = B0 + j := by
  intro b
  simp only [l, List.mem_map, List.mem_filter, decide_eq_true_eq]
  constructor
  ·rintro ⟨j, ⟨h1, h2⟩, h3⟩; exact ⟨j, h1, h2, h3.symm⟩
  ·rintro ⟨j, h1, h2, h3⟩; exact ⟨j, ⟨h1, h2⟩, h3.symm⟩
 obtain ⟨M2, m1, m2⟩ := over (M (i + 1)) Mm.get l
 have Uv : R base ρ1 M2 w1 /\ Step ρ0 m0 w0 ρ1 M2 w1 := by
  refine Se l I.hR I.st lK hs (fun b IQ => ?_) (fun b L hL _ => k2 b L hL) (fun b IQ => ?_) (by omega) m1 m2
  ·obtain ⟨j, j1, j2, rfl⟩ := (hl b).1 IQ
   have := I.sub j j1
   exact ⟨by omega, by omega, k4 j (by omega) this⟩
  ·exact k3 b fun j hj => by omega
 refine ⟨M2, I.b0, ?_, ?_, ?_, .inr ⟨i, o, rfl, ho, hA⟩, Uv.1, m1, by omega, ?_, ?_, ?_, ?_, ?_, Uv.2, hF, I.Io C ho hi, by rw [put_defers]; exact I.df⟩
 ·intro j hj
  rcases o6.1 hj with e | hj
  ·rw [e]; exact bg
  ·exact I.sub j hj
 ·intro j hj k hk
  rcases o6.1 hj with e | hj
  ·rw [e] at hk; exact AA _ (hb k hk)
  ·exact AA _ (I.WU j hj k hk)
 ·intro e q hq Nn
  constructor
  ·intro h
   rcases o6.1 h with e1 | h
   ·omega
   ·have := (I.F9 e q hq Nn).1 h; omega
  ·intro h
   by_cases e1 : e = i
   ·rw [e1]; simp
   ·refine AA _ ((I.F9 e q hq Nn).2 ?_)
    apply B9
    intro h2
    exact mS e q (by omega) (by omega) hq Nn
 ·intro j B hj LV hK
  rcases o6.1 LV with e | h
  ·omega
  ·rw [m2, if_pos ((hl _).2 ⟨j, h, by omega, rfl⟩)]
   exact I.RO j B hj h (by omega)
 ·intro b abj
  rw [m2]
  split
  ·rename_i IQ
   obtain ⟨j, j1, j2, rfl⟩ := (hl b).1 IQ
   have YZ := I.sub j j1
   rw [hs.dead (B0 + j) (by omega) (k4 j (by omega) YZ), I.Pj (B0 + j) ?_]
   ·exact I.dd j (by omega) YZ
   ·intro j' B h1 h2 h3 h4
    have : j = j' := by omega
    subst this;exact abj j B h1 (AA _ h2) (by omega) rfl
  ·rfl
 ·intro j hj h1
  refine AA _ (I.un j hj ?_)
  intro h0
  have := hs.new _ h0 h1
  omega
 ·intro j B hj h1 h2
  have LV : j ∉ S := fun h => h2 (AA _ h)
  have SE : j ≠ i := fun e => h2 (by rw [e]; simp)
  have YZ := hj.lt
  have hρ : ρ (B0 + j) = none := by
   cases e : ρ (B0 + j) with
   | none => rfl
   | some L => exact absurd (I.un j YZ (by rw [e]; simp)) LV
  rw [hs.same (B0 + j) (by omega) hρ];exact k5 j B hj (by omega) LV
 ·intro j h1 h2
  exact hs.dead (B0 + j) (by omega) (k4 j (by omega) h2)
theorem Inv.load (C : Cx P G n call ops is chk B0 F M V) (I : Inv n ops is B0 F M V base ρ0 m0 w0 S K ρ Mm uG a w) {i : Nat} {o : bd} (ho : is[i]? = some o) (hi : i ∉ S) (hb : ∀ j, j ∈ (fx ops.toList []).getD i [] -> j ∈ S)
  {agg : Option Nat} {x : aZ} (hL : Fv o (F i) agg x) (h : (M i).load agg ((F i).eval x) = some (V i)) {x' : Value} (hv : VR ρ ((F i).eval x) x') : Mm.load agg ((F i).eval x) = some (V i) := by
 have bg := (rn.1 ho).1
 have Rn : sort o.op = 2 := by rw [hL.2.1]; rfl
 -- a place in the Zj order from WW no act parts us
 have hex : ∃ k, K <= k /\ k <= is.length /\ (∀ e q, K <= e -> e < k -> is[e]? = some q -> ¬ ob q (F e)) /\ (M k).load agg ((F i).eval x) = some (V i) := by
  by_cases TH : K <= i
  ·by_cases RI : ∃ e, K <= e /\ e < i /\ ∃ q, is[e]? = some q /\ ob q (F e)
   ·-- the first of aeQ
    obtain ⟨e, ⟨Y0, WJ, q, hq, Nn⟩, abp⟩ : ∃ e, (K <= e /\ e < i /\ ∃ q, is[e]? = some q /\ ob q (F e)) /\ ∀ e', e' < e -> ¬ (K <= e' /\ e' < i /\ ∃ q, is[e']? = some q /\ ob q (F e')) := by
     obtain ⟨e, he⟩ := RI
     induction e using Nat.strongRecOn with
     | _ e ih =>
      by_cases h : ∃ e', e' < e /\ (K <= e' /\ e' < i /\ ∃ q, is[e']? = some q /\ ob q (F e'))
      ·obtain ⟨e', h1, h2⟩ := h; exact ih e' h1 h2
      ·exact ⟨e, he, fun e' h1 h2 => h ⟨e', h1, h2⟩⟩
    have UD : e ∉ S := fun hh => by have := (I.F9 e q hq Nn).1 hh; omega
    have hp := (C.open_ e i q o WJ hq ho (fun hh => UD (hb e hh))).2.2.2.2 (Nat.le_antisymm (Cp _) Nn.2) Rn
    have := (C.c1 i o agg x e q ho hq hL Nn hp).1 WJ
    exact ⟨e, Y0, by omega, fun e' q' h1 h2 GK hA' => abp e' h2 ⟨h1, by omega, q', GK, hA'⟩, Gh this⟩
   ·exact ⟨i, TH, by omega, fun e q h1 h2 hq hA => RI ⟨e, h1, h2, q, hq, hA⟩, h⟩
  ·rcases I.last with h0 | ⟨e, q, hK, hq, Nn⟩
   ·omega
   ·have UD : e ∈ S := (I.F9 e q hq Nn).2 (by omega)
    have hie : i ≠ e := fun h => hi (h ▸ UD)
    have hp := (C.open_ i e o q (by omega) ho hq (fun hh => hi (I.WU e UD i hh))).2.2.2.1 Rn (Nat.le_antisymm (Cp _) Nn.2)
    have := (C.c1 i o agg x e q ho hq hL Nn hp).2 (by omega)
    refine ⟨K, eX _, I.kN, fun e' q' h1 h2 => absurd h2 (by omega), ?_⟩
    rw [hK]; exact Gh this
 obtain ⟨k, h1, h2, h3, h4⟩ := hex
 obtain ⟨_, k2, _, _, _⟩ := I.wk C h1 h2 h3
 obtain ⟨b, off, hx, hd⟩ := QZ hL.2.2 h4
 rw [hx] at hv h4 ⊢
 cases hv with
 | ptr hL =>
 rcases k2 b _ hL with e | e
 ·rw [<- Q1 e]; exact h4
 ·exact absurd e hd
theorem Yo (bI : pK P G call) (C : Cx P G n call ops is chk B0 F M V) (hG : jJ G ρ0) : ∀ (l S : List Nat) (K : Nat) (ρ : eF) (Mm : Mem) (uG : Fr) (a : Act) (w : World), Inv n ops is B0 F M V base ρ0 m0 w0 S K ρ Mm uG a w ->
  (∀ (k i : Nat), l[k]? = some i -> i < is.length /\ i ∉ S /\ i ∉ l.take k /\ ∀ b, b ∈ (fx ops.toList []).getD i [] -> b ∈ S \/ b ∈ l.take k) -> (∀ i, i < is.length -> i ∈ S \/ i ∈ l) ->
  wpOps P ops (Reach base n ρ0 m0 w0 (.norm (F is.length) (M is.length))) l a w := by
 intro l
 induction l with
 | nil =>
  intro S K ρ Mm uG a w I hl hall
  have hS : ∀ i, i < is.length -> i ∈ S := fun i hi => by rcases hall i hi with h | h; exact h; cases h
  obtain ⟨k1, k2, k3, k4, k5⟩ := I.wk C I.kN (eX _) (fun e q h1 h2 hq hA => by have := (I.F9 e q hq hA).1 (hS e h2); omega)
  obtain ⟨_, hb⟩ := seg C K is.length I.kN (eX _) (fun e q h1 h2 hq hA => by have := (I.F9 e q hq hA).1 (hS e h2); omega)
  have hg : ∀ b, (M is.length).get b = Mm.get b := by
   intro b
   rcases hb b with ⟨j, B, q1, q2, q3, q4, q5⟩ | ⟨q1, q2⟩
   ·rw [q5, q4]; exact (I.RO j B q3 (hS j q2) q1).symm
   ·rw [q2]; exact (I.Pj b fun j B p1 p2 p3 p4 => q1 j B p3 p1.lt p1 p4).symm
  have FC : (M is.length).next = Mm.next := by rw [k1, I.nx]
  have VP : ∀ k, k <= is.length -> (F k).defers = (F 0).defers := by
   intro k
   induction k with
   | zero => intro _; rfl
   | succ k ih =>
    intro hk
    have bg : k < is.length := by omega
    obtain ⟨_, hF⟩ := C.at_ k is[k] (lp bg)
    rw [hF, put_defers]; exact ih (by omega)
  refine ⟨rfl, ρ, I.hR.congr FC hg, I.st.congr FC hg, ⟨⟨I.fr.tm.size, fun t => ?_⟩, ?_⟩⟩
  ·have := I.fr.tm.tmp t
   rw [I.cur t, Ba C S t is.length (eX _) (fun j o hj _ _ => hS j hj)] at this;exact this
  ·rw [VP _ (eX _), <- I.df]; exact I.fr.F5
 | cons i l ih =>
  intro S K ρ Mm uG a w I hl hall
  obtain ⟨bg, hi, _, hb⟩ := hl 0 i rfl
  have hb : ∀ j, j ∈ (fx ops.toList []).getD i [] -> j ∈ S := fun j hj => by
   rcases hb j hj with h | h
   ·exact h
   ·simp at h
  have BV : is[i]? = some is[i] := lp bg
  generalize is[i] = io at BV
  have next : ∀ {K1 : Nat} {ρ1 : eF} {M1 : Mem} {fY : Fr} {a1 : Act} {w1 : World}, Inv n ops is B0 F M V base ρ0 m0 w0 (i :: S) K1 ρ1 M1 fY a1 w1 -> wpOps P ops (Reach base n ρ0 m0 w0 (.norm (F is.length) (M is.length))) l a1 w1 := by
   intro K1 ρ1 M1 fY a1 w1 I1
   refine ih (i :: S) K1 ρ1 M1 fY a1 w1 I1 (fun k j hj => ?_) (fun j hj => ?_)
   ·obtain ⟨g1, g2, g3, g4⟩ := hl (k + 1) j (by simpa using hj)
    rw [List.take_succ_cons] at g3 g4;refine ⟨g1, ?_, fun h => g3 (AA _ h), fun b hb => ?_⟩
    ·intro h
     rcases o6.1 h with e | h
     ·exact g3 (by rw [e]; simp)
     ·exact g2 h
    ·rcases g4 b hb with h | h
     ·exact .inl (AA _ h)
     ·rcases o6.1 h with e | h
      ·exact .inl (by rw [e]; simp)
      ·exact .inr h
   ·rcases hall j hj with h | h
    ·exact .inl (AA _ h)
    ·rcases o6.1 h with e | h
     ·exact .inl (by rw [e]; simp)
     ·exact .inr h
  obtain ⟨o, ho, hc⟩ := C.comp i io BV
  obtain ⟨hx, nJ, AZ, nY⟩ := Ko hc
  obtain ⟨PU, _⟩ := C.at_ i io BV
  have hval := I.val C BV hi hb
  have rU := eval_eq hval
  have Wz := IT hval
  have WL := hG.ext I.st.ext
  simp only [wpOps, ho]
  -- one Oo looks at the memory eT it is
  have still : ∀ {op : lL}, io.op = .val op -> ¬ ob io (F i) -> (∀ B, ¬ gT is B0 F M i B) -> aF uG.eval op Mm = some (.val (V i) Mm) ->
    o.wp P a w (wpOps P ops (Reach base n ρ0 m0 w0 (.norm (F is.length) (M is.length))) l) (Reach base n ρ0 m0 w0 (.norm (F is.length) (M is.length))) := by
   intro op lJ TB JN he
   rw [lJ] at hx;obtain ⟨ρ1, w1, v', ki, hv, lK, hs⟩ := Et (vt hx) WL I.hR I.fr.tm he
   have hF := (I.fr.ext hs.ext).put AZ hv
   rw [<- nJ] at hF;have := next (I.idle C BV hi hb TB JN lK hs hF)
   simp only [Oper.wp];rw [nJ] at this;rcases ki with ki | ⟨ki, rfl⟩
   ·rw [ki]; exact this
   ·rw [ki]; exact this
  cases PU with
  | skip hw hv hm =>
   rw [mH I.fr.tm nY (Wz.trans hw), if_neg (by simp)];have hF := I.fr.put AZ (VR.undef (ρ := ρ))
   rw [<- hv, <- nJ] at hF;have := next (I.idle C BV hi hb (fun hA => by have := hA.1; rw [hw] at this; cases this) (fun B ⟨o', op, h1, h2, h3, h4, _⟩ => by rw [BV] at h1; cases h1; rw [hw] at h4; cases h4) I.hR (.refl _ _ _) hF)
   rw [nJ] at this;exact this
  | pure op m1 hw lJ hs h hm =>
   rw [mH I.fr.tm nY (Wz.trans hw), if_pos rfl]
   left
   refine still lJ (fun hA => by have := hA.2; rw [lJ] at this; simp only [sort] at this; omega) (fun B ⟨o', Zq, h1, h2, h3, h4, _⟩ => by rw [BV] at h1; cases h1; rw [lJ] at h2; cases h2; omega) ?_
   rw [x9 (g := (F i).eval) (fun x Rk => rU x (by rw [lJ]; exact Rk))]
   exact (Ja hs h).2 Mm
  | load agg x hw lJ h hm =>
   rw [mH I.fr.tm nY (Wz.trans hw), if_pos rfl]
   left
   refine still lJ (fun hA => by have := hA.2; rw [lJ] at this; simp [sort, cZ] at this) (fun B ⟨o', Zq, h1, h2, h3, h4, _⟩ => by rw [BV] at h1; cases h1; rw [lJ] at h2; cases h2; simp [cZ] at h3) ?_
   have Xo : uG.eval x = (F i).eval x := rU x (by rw [lJ]; simp [pd, iS])
   rw [lJ] at hx;have um : ∃ x', VR ρ (uG.eval x) x' := by
    cases x with
    | tmp t => exact ⟨_, I.fr.tm.tmp t⟩
    | const v =>
     obtain ⟨YA, x1, x0, q1, q2⟩ := Q0 (vt hx) rfl
     cases q1
     exact ⟨_, iu WL I.fr.tm q2⟩
   obtain ⟨x', PQ⟩ := um
   rw [Xo] at PQ
   have := I.load C BV hi hb ⟨hw, lJ, by generalize (F i).eval x = y at PQ; cases PQ <;> rfl⟩ h PQ
   simp only [aF, Xo, this, gA, Option.map_some]
  | make op m1 hw lJ hs h hm =>
   rw [mH I.fr.tm nY (Wz.trans hw), if_pos rfl]
   left
   rw [lJ] at hx;obtain ⟨B, mk, e1, e2, e3⟩ := EB hs h
   have hmk : gT is B0 F M i B := ⟨io, op, BV, lJ, hs, hw, by rw [hm, e2]; rfl⟩
   have he : aF uG.eval op ⟨B0 + i, Mm.gM⟩ = some (.val (V i) ((⟨B0 + i, Mm.gM⟩ : Mem).new B)) := by
    rw [x9 (g := (F i).eval) (fun x Rk => rU x (by rw [lJ]; exact Rk)), e3, e1]
   have hRN : RN base ρ ⟨B0 + i, Mm.gM⟩ w := by
    refine ⟨?_, I.hR.dj, I.hR.inj, I.hR.base⟩
    apply B9
    intro e
    exact hi (I.un i bg e)
   obtain ⟨B', TK, ρ1, w1, v', ki, hv, hM⟩ := Ly (vt hx) hs WL hRN I.fr.tm he
   have : B' = B := by
    have h1 := congrArg (fun m : Mem => m.get (B0 + i)) TK
    simp only [Mem.fw, if_true] at h1;exact h1.symm
   subst this;have hF := (I.fr.ext hM.ext).put AZ hv
   rw [<- nJ] at hF;have := next (I.make C BV hi hb hmk hM hF)
   rw [nJ] at this;simp only [Oper.wp];rw [ki]; exact this
  | act op hw lJ hs h =>
   rw [mH I.fr.tm nY (Wz.trans hw), if_pos rfl]
   left
   rw [lJ] at hx;have hA : ob io (F i) := ⟨hw, by rw [lJ]; exact hs⟩
   obtain ⟨TH, mS⟩ := I.next C BV hi hb hA
   have Y3 := I.text C TH (Nat.le_of_lt bg) mS
   rw [<- x9 (f := uG.eval) (fun x Rk => rU x (by rw [lJ]; exact Rk))] at h
   obtain ⟨ρ1, w1, v', ki, hv, lK, ev⟩ := Et (vt hx) WL Y3 I.fr.tm h
   have hF := (I.fr.ext ev.ext).put AZ hv
   rw [<- nJ] at hF;obtain ⟨M2, I2⟩ := I.act C BV hi hb hA lK ev hF
   have := next I2
   rw [nJ] at this;simp only [Oper.wp];rcases ki with ki | ⟨ki, rfl⟩
   ·rw [ki]; exact this
   ·rw [ki]; exact this
  | call f args hw lJ h =>
   rw [mH I.fr.tm nY (Wz.trans hw), if_pos rfl]
   left
   rw [lJ] at hx;have hA : ob io (F i) := ⟨hw, by rw [lJ]; simp [sort]⟩
   obtain ⟨TH, mS⟩ := I.next C BV hi hb hA
   have Y3 := I.text C TH (Nat.le_of_lt bg) mS
   obtain ⟨f0, Wh, ts0, Rw, hf, Rj⟩ := G4 hx
   have jh : uG.eval f = (F i).eval f := rU f (by rw [lJ]; simp [pd])
   have hae : args.map uG.eval = args.map (F i).eval := pt fun x Rk => rU x (by rw [lJ]; simp [pd, Rk])
   rw [<- jh, <- hae] at h
   cases JR : uG.eval f <;> simp only [JR, fR, reduceCtorEq] at h
   rename_i g x y
   obtain ⟨aA, ki, hv⟩ := MR (w := w) (P := P) Rw hf Rj WL I.fr.tm JR
   simp only [Oper.wp];rw [ki];rcases bI _ _ _ _ h base ρ w aA Y3 WL hv with ⟨h1, h2⟩ | ⟨v, v', e, h1, h2⟩
   ·rw [h1]
    simp only [Oper.upon];refine h2.mono fun e w' hp => ?_
    obtain ⟨ρ1, v', rfl, zu, lK, ev⟩ := hp
    have hF := (I.fr.ext ev.ext).put AZ zu
    rw [<- nJ] at hF;obtain ⟨M2, I2⟩ := I.act C BV hi hb hA lK ev hF
    have := next I2
    rw [nJ] at this;exact this
   ·rw [h1]
    simp only [Oper.upon];simp only [Fin.ret.injEq] at e;obtain ⟨rfl, e⟩ := e
    have hF := I.fr.put AZ h2
    rw [<- nJ] at hF;obtain ⟨M2, I2⟩ := I.act C BV hi hb hA (by rw [e]; exact Y3) (by rw [e]; exact .refl _ _ _) hF
    have := next I2
    rw [nJ] at this;exact this
end
theorem xZ {i j : Nat} : ∀ {l : List (Nat × Nat)}, (i, j) ∈ l -> bX i j l = true
 | [], h => by cases h
 | (a, b) :: l, h => by
  simp only [bX];rcases o6.1 h with e | h
  ·cases e
   simp
  ·have := xZ h
   cases h1 : a.beq i <;> simp only [cond_true, cond_false]
   ·exact this
   ·cases h2 : b.beq j <;> simp only [cond_true, cond_false]
    ·exact this
theorem OG {n i j : Nat} (h : i < j) (hj : j < n) : (i, j) ∈ MO n := by
 unfold MO;refine List.mem_flatMap.2 ⟨j, by simpa using hj, List.mem_map.2 ⟨i, by simpa using h, rfl⟩⟩
theorem xS {acc : List (List Nat)} {BZ : List Nat} (h : ∀ k i, (BZ.getD k 0).testBit i = true -> i ∈ acc.getD k []) : ∀ (es : List Edge) (i : Nat), (AT BZ es).testBit i = true ->
  i ∈ (es.filter fN).flatMap fun e => e.on :: acc.getD e.on []
 | [], i, hi => by simp [AT] at hi
 | e :: es, i, hi => by
  simp only [AT] at hi
  cases hp : fN e with
  | false =>
   simp only [hp, cond_false] at hi;rw [List.filter_cons, hp];exact xS h es i hi
  | true =>
   simp only [hp, cond_true, Nat.testBit_or, Bool.or_eq_true, Nat.testBit_two_pow, decide_eq_true_eq] at hi;rw [List.filter_cons, hp];simp only [if_true, List.flatMap_cons, uD, o6];rcases hi with (hi | hi) | hi
   ·exact .inl (.inl hi.symm)
   ·exact .inl (.inr (h _ _ hi))
   ·exact .inr (xS h es i hi)
theorem Gz : ∀ (l : List Oper) (acc : List (List Nat)) (BZ : List Nat), BZ.length = acc.length -> (∀ k i, (BZ.getD k 0).testBit i = true -> i ∈ acc.getD k []) ->
  ∀ k i, ((Jv l BZ).getD k 0).testBit i = true -> i ∈ (fx l acc).getD k []
 | [], _, _, _, h => h
 | o :: l, acc, BZ, hl, h => by
  refine Gz l _ _ (by simp [hl]) fun k i hi => ?_
  by_cases hk : k < BZ.length
  ·rw [List.getD_eq_getElem?_getD, B8 hk, <- List.getD_eq_getElem?_getD] at hi
   rw [List.getD_eq_getElem?_getD, B8 (by omega), <- List.getD_eq_getElem?_getD];exact h k i hi
  ·rw [List.getD_eq_getElem?_getD, FF (by omega)] at hi
   rw [List.getD_eq_getElem?_getD, FF (by omega)];rw [hl] at hi
   cases hx : k - acc.length with
   | zero =>
    rw [hx] at hi;simp only [List.getElem?_cons_zero, Option.getD_some] at hi ⊢
    exact xS h _ i hi
   | succ x => rw [hx] at hi; simp at hi
theorem Ii {l : List Oper} {is : List bd} {chk : List (Nat × Nat)} (h : sj l is = some chk) : vb l 0 = true /\
  ∀ (i j : Nat) (io jo : bd), i < j -> is[i]? = some io -> is[j]? = some jo -> i ∉ (fx l []).getD j [] ->
   ¬ (sort io.op = 3 /\ sort jo.op = 3) /\ (∀ t, io.dst = some t -> t ∉ named jo) /\ (∀ t, jo.dst = some t -> t ∉ named io) /\ (sort io.op = 2 -> sort jo.op = 3 -> bX i j chk = true) /\ (sort io.op = 3 -> sort jo.op = 2 -> bX j i chk = true) := by
 unfold sj at h;simp only [Bool.cond_eq_ite] at h
 split at h
 ·rename_i hq
  simp only [pL] at hq;obtain ⟨h1, h2⟩ := hq
  refine ⟨h1, fun i j io jo UC BV YY mS => ?_⟩
  have hm : (i, j) ∈ (MO is.length).filter fun (p : Nat × Nat) => !((Jv l []).getD p.2 0).testBit p.1 := by
   refine List.mem_filter.2 ⟨OG UC (rn.1 YY).1, ?_⟩
   cases hb : ((Jv l []).getD j 0).testBit i with
   | false => simp only [hb, Bool.not_false]
   | true => exact absurd (Gz l [] [] rfl (fun k i h => by simp at h) j i hb) mS
  have h3 := List.all_eq_true.1 h2 (i, j) hm
  simp only [BV, YY, Option.map_some, Option.getD_some, Option.bind_some, pL] at h3;obtain ⟨⟨h4, h5⟩, h6⟩ := h3
  simp only [bj] at h;refine ⟨fun ⟨a, b⟩ => by rw [a, b] at h4; simp at h4, fun t ht => ?_, fun t ht => ?_, fun a b => ?_, fun a b => ?_⟩
  ·rw [ht] at h5; simpa using h5
  ·rw [ht] at h6; simpa using h6
  ·rw [<- h]
   refine xZ (List.mem_flatMap.2 ⟨(i, j), hm, ?_⟩)
   simp [BV, YY, a, b]
  ·rw [<- h]
   refine xZ (List.mem_flatMap.2 ⟨(i, j), hm, ?_⟩)
   simp [BV, YY, a, b]
 ·cases h
theorem L8 (iK : P.follows .mixedOrders = true) (bI : pK P G call) {base id : Nat} {ops : Array Oper} {is : List bd} {chk : List (Nat × Nat)} (TD : ops.toList.mapM (uv P G n ops) = some is)
  (VT : sj ops.toList is = some chk) {ρ : eF} {m : Mem} {w : World} {fr : Fr} {a : Act} {out : Out} (hR : R base ρ m w) (hG : jJ G ρ) (hF : B7 ρ n fr a)
  (h : dR call chk m.next is 0 fr ⟨m.next + is.length, m.gM⟩ [] [] = some out) : (Code.region id ops true).wp P (Reach base n ρ m w out) a w := by
 obtain ⟨zA, XF⟩ := Ii VT
 obtain ⟨hlen, XU⟩ := mapM_some _ TD
 have hlen : ops.size = is.length := by simpa using hlen
 obtain ⟨F, M, V, f0, m0, EP, XV⟩ := R9 is 0 fr _ [] [] out h
 simp only [Nat.zero_add] at EP;subst EP;have C : Cx P G n call ops is chk m.next F M V := by
  refine ⟨fun i io hi => ?_, fun k o hk => by simpa using XV.at_ k o hk, fun k o agg x l q hk hl hL hA hp => ?_, XF⟩
  ·have bg : i < ops.size := by have := (rn.1 hi).1; omega
   exact ⟨ops[i], Array.getElem?_eq_getElem bg, XU i ops[i] io (by simp [bg]) hi⟩
  ·have := XV.c1 k o agg x l q hk hl (by simpa using hL) (by simpa using hA) (by simpa using hp)
   simpa using this
 refine wp_region_draw fun t => ?_
 have q : Fq w { w with drawn := w.drawn + 1 } := ⟨rfl, rfl, rfl, rfl⟩
 generalize { w with drawn := w.drawn + 1 } = w1 at q
 have hl := Hr iK ops zA t
 have IQ := F8 zA hl
 generalize Region.schedule (P.follows .mixedOrders) ops t = l at hl IQ
 have lK := hR.quiet q
 have ev : Step ρ m w ρ m w1 := .quiet q
 have ma : ∀ b, (M 0).get b = m.get b := fun b => by rw [m0]; rfl
 have JO : (M 0).next = m.next + is.length := by rw [m0]
 have hR2 : R base ρ (M 0) w1 := ⟨fun b L hb => by rw [JO]; have := lK.lt b L hb; omega, fun b L hb => by rw [ma]; exact lK.dj b L hb,
  fun b c L L' h1 h2 h3 h4 => lK.inj b c L L' h1 h2 (by unfold Live at *; rwa [ma] at h3) (by unfold Live at *; rwa [ma] at h4), lK.base, fun b hb => by rw [ma]; exact lK.clean b (by rw [JO] at hb; omega)⟩
 have abb : Step ρ m w ρ (M 0) w1 := ⟨ev.ext, ev.new, by rw [JO]; omega, fun b hb hn => by rw [ma], fun b hb hd => by rw [ma]; exact hd, ev.size,
  fun i hi ⟨b, L, h1, h2, h3, h4⟩ => ⟨b, L, h1, by unfold Live at *; rwa [ma] at h2, h3, h4⟩, ev.kept, ev.os, ev.tape, ev.output⟩
 have XT : ∀ t, ∀ k, Ad is F V [] t k = (F 0).get t := by
  intro t k
  induction k with
  | zero => rfl
  | succ k ih => simp only [Ad]; rw [if_neg (by simp)]; exact ih
 have I : Inv n ops is m.next F M V base ρ m w [] 0 ρ (M 0) fr a w1 := by
  refine ⟨rfl, by simp, by simp, by simp, .inl rfl, hR2, rfl, by rw [JO]; omega, by simp, fun b _ => rfl, fun j _ hj => ?_, fun j B _ h => absurd h (by omega), fun j _ _ => ?_, abb, hF, fun t => by rw [XT, f0], by rw [f0]⟩
  ·exfalso
   apply hj
   cases e : ρ (m.next + j) with
   | none => rfl
   | some L => have := hR.lt _ _ e; omega
  ·rw [ma]; exact hR.clean _ (by omega)
 refine Yo bI C hG l [] 0 ρ (M 0) fr a w1 I (fun k i hk => ?_) (fun i hi => .inr ((hl.all i).2 (by omega)))
 refine ⟨by have := (hl.all i).1 (List.mem_of_getElem? hk); omega, by simp, ?_, fun b hb => .inr (IQ i k hk b hb)⟩
 intro ER
 obtain ⟨k', nS⟩ := List.mem_iff_getElem?.1 ER
 have bg : k' < k := by have := (rn.1 nS).1; simp at this; omega
 rw [List.getElem?_take, if_pos bg] at nS
 have h1 := rn.1 hk
 have h2 := rn.1 nS
 obtain ⟨g1, e1⟩ := h1
 obtain ⟨g2, e2⟩ := h2
 exact List.pairwise_iff_getElem.1 hl.nodup k' k g2 g1 bg (by rw [e1, e2])
end
end
section
section
variable {P : Program} {G : List Nat} {n : Nat} {call : Call}
theorem xH.Ll {ρ : eF} {ds : List Deferred} (h : xH ρ [] ds) : ds = [] := by cases h; rfl
theorem He {Q : Exit -> Act -> World -> Prop} {a : Act} {w : World} {c : Code} (I : Nat -> Act -> World -> Prop) (j : Nat) (h₀ : I j a w)
  (round : ∀ j a w, I j a w -> c.wp P (Exit.then (fun a' w' => ∃ i, i < j /\ I i a' w') Q) a w) : (Code.loop c).wp P Q a w := by
 intro b k cs
 have key : ∀ j a w, I j a w -> ∃ e a' w', Q e a' w' /\ Arrives P (lone (b.at a (.code c :: .inLoop c :: k)) cs w) b k cs e a' w' := by
  intro j
  induction j using Nat.strongRecOn with
  | _ j ih =>
   intro a w hI
   obtain ⟨e, a₁, w₁, hq, rV⟩ := round j a w hI b (.inLoop c :: k) cs
   cases e with
   | normal =>
    obtain ⟨i, bg, hI₁⟩ := hq
    obtain ⟨e₂, a₂, w₂, hq₂, XZ⟩ := ih i bg a₁ w₁ hI₁
    exact ⟨e₂, a₂, w₂, hq₂, .of_steps (Steps.trans rV (.one step_inLoop)) XZ⟩
   | exit id => exact ⟨_, a₁, w₁, hq, .pass (x := .inLoop c) rfl (fun _ _ => .inl (by simp)) rV⟩
   | goto l => exact ⟨_, a₁, w₁, hq, .pass (x := .inLoop c) rfl (fun _ _ => .inl (by simp)) rV⟩
   | ret => exact ⟨_, a₁, w₁, hq, .pass (x := .inLoop c) rfl (fun _ _ => .inl (by simp)) rV⟩
   | panic ch => exact ⟨_, a₁, w₁, hq, .pass (x := .inLoop c) rfl (fun _ _ => .inl (by simp)) rV⟩
   | outgrown => exact ⟨_, a₁, w₁, hq, .pass (x := .inLoop c) rfl (fun _ _ => .inl (by simp)) rV⟩
 obtain ⟨e, a', w', hq, rV⟩ := key j a w h₀
 exact ⟨e, a', w', hq, .of_steps (.one step_loop) rV⟩
theorem iq (iK : P.follows .mixedOrders = true) (bI : pK P G call) (k : Nat) {base : Nat} : ∀ (c : Code) (ic : aE), gj P G n c = some ic ->
  ∀ (ρ : eF) (m : Mem) (w : World) (fr : Fr) (a : Act) (out : Out), R base ρ m w -> jJ G ρ -> B7 ρ n fr a -> aw call k ic fr m = some out -> c.wp P (Reach base n ρ m w out) a w
 | .skip, ic, hc, ρ, m, w, fr, a, out, hR, hG, hF, h => by
  simp only [gj, bj] at hc; subst hc
  simp only [aw, bj] at h; subst h
  exact wp_skip ⟨rfl, ρ, hR, .refl _ _ _, hF⟩
 | .label l, ic, hc, ρ, m, w, fr, a, out, hR, hG, hF, h => by
  simp only [gj, bj] at hc; subst hc
  simp only [aw, bj] at h; subst h
  exact wp_label ⟨rfl, ρ, hR, .refl _ _ _, hF⟩
 | .exit id, ic, hc, ρ, m, w, fr, a, out, hR, hG, hF, h => by
  simp only [gj, bj] at hc; subst hc
  simp only [aw, bj] at h; subst h
  exact wp_exit ⟨rfl, ρ, hR, .refl _ _ _, hF⟩
 | .ret, ic, hc, ρ, m, w, fr, a, out, hR, hG, hF, h => by
  simp only [gj, bj] at hc; subst hc
  simp only [aw, bj] at h; subst h
  exact wp_ret ⟨rfl, ρ, hR, .refl _ _ _, hF⟩
 | .region id ops false, ic, hc, ρ, m, w, fr, a, out, hR, hG, hF, h => by
  simp only [gj] at hc;obtain ⟨is, TD, rfl⟩ := ag hc
  simp only [aw] at h;refine wp_region ?_
  obtain ⟨h1, h2⟩ := mapM_some _ TD
  refine Gq bI is (List.range ops.size) (by simpa using h1.symm) (fun j i io hj BV => ?_) ρ m w fr a out hR hG hF h
  have bg : j < ops.size := by
   have := (rn.1 hj).1
   simpa using this
  rw [List.getElem?_range bg] at hj
  cases hj
  exact ⟨ops[j], Array.getElem?_eq_getElem bg, h2 j ops[j] io (by simp [bg]) BV⟩
 | .region id ops true, ic, hc, ρ, m, w, fr, a, out, hR, hG, hF, h => by
  simp only [gj] at hc
  cases TD : ops.toList.mapM (uv P G n ops) with
  | none => simp [TD] at hc
  | some is =>
   simp only [TD] at hc;obtain ⟨chk, VT, rfl⟩ := ag hc
   simp only [aw] at h;exact L8 iK bI TD VT hR hG hF h
 | .seq x y, ic, hc, ρ, m, w, fr, a, out, hR, hG, hF, h => by
  simp only [gj] at hc
  cases hx : gj P G n x with
  | none => simp [hx] at hc
  | some ix =>
  cases hy : gj P G n y with
  | none => simp [hx, hy] at hc
  | some iy =>
  simp only [hx, hy, bj] at hc;subst hc;simp only [aw] at h
  cases h1 : aw call k ix fr m with
  | none => simp [h1] at h
  | some o1 =>
   simp only [h1] at h;have hw := iq iK bI k x ix hx ρ m w fr a o1 hR hG hF h1
   refine wp_seq (wp_mono hw fun e a1 w1 hq => ?_)
   cases o1 with
   | norm fY m1 =>
    obtain ⟨rfl, ρ1, lK, hs, wL⟩ := hq
    simp only [Exit.then];have := iq iK bI k y iy hy ρ1 m1 w1 fY a1 out lK (hG.ext hs.ext) wL h
    exact wp_mono this fun e a w hq => hq.after hs
   | exit id fY m1 =>
    simp only [bj] at h; subst h
    have := hq; obtain ⟨rfl, _⟩ := this; exact hq
   | ret fY m1 =>
    simp only [bj] at h; subst h
    have := hq; obtain ⟨rfl, _⟩ := this; exact hq
   | gO v fY m1 =>
    simp only [bj] at h; subst h
    have := hq; obtain ⟨_, _, rfl, _⟩ := this; exact hq
 | .cond c x y, ic, hc, ρ, m, w, fr, a, out, hR, hG, hF, h => by
  simp only [gj] at hc
  cases va : ff G c with
  | none => simp [va] at hc
  | some c' =>
  cases hx : gj P G n x with
  | none => simp [va, hx] at hc
  | some ix =>
  cases hy : gj P G n y with
  | none => simp [va, hx, hy] at hc
  | some iy =>
  simp only [va, hx, hy, bj] at hc;subst hc;simp only [aw] at h;have LX := iu hG hF.tm va
  cases rU : fr.eval c' <;> simp only [rU, reduceCtorEq] at h
  rename_i t
  rw [rU] at LX;generalize H2 : a.eval c = av at LX
  cases LX
  refine wp_cond H2 ?_
  cases t with
  | true => exact iq iK bI k x ix hx ρ m w fr a out hR hG hF h
  | false => exact iq iK bI k y iy hy ρ m w fr a out hR hG hF h
 | .block id x, ic, hc, ρ, m, w, fr, a, out, hR, hG, hF, h => by
  simp only [gj] at hc;obtain ⟨ix, hx, rfl⟩ := ag hc
  simp only [aw] at h
  cases h1 : aw call k ix fr m with
  | none => simp [h1] at h
  | some o1 =>
   simp only [h1] at h;have hw := iq iK bI k x ix hx ρ m w fr a o1 hR hG hF h1
   refine wp_block (wp_mono hw fun e a1 w1 hq => ?_)
   cases o1 with
   | norm fY m1 =>
    simp only [bj] at h; subst h
    have := hq; obtain ⟨rfl, _⟩ := this; exact hq
   | exit j fY m1 =>
    obtain ⟨rfl, hq⟩ := hq
    simp only [Exit.inBlock]
    cases hj : j.beq id <;> simp only [hj, cond_true, cond_false, bj] at h <;> subst h
    ·rw [if_neg (kh hj)]; exact ⟨rfl, hq⟩
    ·rw [if_pos (aV hj)]; exact ⟨rfl, hq⟩
   | ret fY m1 =>
    simp only [bj] at h; subst h
    have := hq; obtain ⟨rfl, _⟩ := this; exact hq
   | gO v fY m1 =>
    simp only [bj] at h; subst h
    have := hq; obtain ⟨_, _, rfl, _⟩ := this; exact hq
 | .loop x, ic, hc, ρ, m, w, fr, a, out, hR, hG, hF, h => by
  simp only [gj] at hc;obtain ⟨ix, hx, rfl⟩ := ag hc
  simp only [aw] at h;refine He (fun j a1 w1 => ∃ ρ1 m1 fY, R base ρ1 m1 w1 /\ Step ρ m w ρ1 m1 w1 /\ B7 ρ1 n fY a1 /\ iter (aw call k ix) j fY m1 = some out) k ⟨ρ, m, fr, hR, .refl _ _ _, hF, h⟩ ?_
  rintro j a1 w1 ⟨ρ1, m1, fY, lK, hs, wL, hit⟩
  cases j with
  | zero => simp [iter] at hit
  | succ j =>
   simp only [iter] at hit
   cases h1 : aw call k ix fY m1 with
   | none => simp [h1] at hit
   | some o1 =>
    simp only [h1] at hit;have hw := iq iK bI k x ix hx ρ1 m1 w1 fY a1 o1 lK (hG.ext hs.ext) wL h1
    refine wp_mono hw fun e a2 w2 hq => ?_
    cases o1 with
    | norm Yd m2 =>
     obtain ⟨rfl, ρ2, hR2, SB, hF2⟩ := hq
     exact ⟨j, Nat.lt_succ_self j, ρ2, m2, Yd, hR2, hs.trans SB, hF2, hit⟩
    | exit id Yd m2 =>
     simp only [bj] at hit; subst hit
     have := hq; obtain ⟨rfl, _⟩ := this; exact hq.after hs
    | ret Yd m2 =>
     simp only [bj] at hit; subst hit
     have := hq; obtain ⟨rfl, _⟩ := this; exact hq.after hs
    | gO v Yd m2 =>
     simp only [bj] at hit; subst hit
     have := hq; obtain ⟨_, _, rfl, _⟩ := this; exact hq.after hs
 | .scope x, ic, hc, ρ, m, w, fr, a, out, hR, hG, hF, h => by
  simp only [gj] at hc;refine wp_scope_straight (wp_mono (iq iK bI k x ic hc ρ m w fr a out hR hG hF h) fun e a1 w1 hq => ?_)
  cases out with
  | norm fY m1 => have := hq; obtain ⟨rfl, _⟩ := this; exact hq
  | exit id fY m1 => have := hq; obtain ⟨rfl, _⟩ := this; exact hq
  | ret fY m1 => have := hq; obtain ⟨rfl, _⟩ := this; exact hq
  | gO v fY m1 => have := hq; obtain ⟨_, _, rfl, _⟩ := this; exact hq
 | .goto l, ic, hc, ρ, m, w, fr, a, out, hR, hG, hF, h => by simp [gj] at hc
 | .refuse l, ic, hc, ρ, m, w, fr, a, out, hR, hG, hF, h => by simp [gj] at hc
 | .rangeFunc f ps s b, ic, hc, ρ, m, w, fr, a, out, hR, hG, hF, h => by simp [gj] at hc
theorem G5 : ∀ (l : List EV) (i : Nat) (t : Tr EV) (k : Nat), (cQ l i t).get k = if i <= k /\ k < i + l.length then l[k - i]? else t.get k
 | [], i, t, k => by rw [if_neg (fun h => by have := h.2; simp at this; omega)]; rfl
 | v :: l, i, t, k => by
  simp only [cQ];rw [G5 l (i + 1) (t.set i v) k, Tr.bY];by_cases h : k = i
  ·subst h
   rw [if_neg (by omega), if_pos rfl, if_pos (by simp)];simp
  ·by_cases h2 : i + 1 <= k /\ k < i + 1 + l.length
   ·rw [if_pos h2, if_pos (by simp; omega), show k - i = (k - (i + 1)) + 1 by omega]
    simp
   ·rw [if_neg h2, if_neg h, if_neg (by simp; omega)]
theorem vg {ρ : eF} {args : List EV} {aA : Array Value} (hv : fB ρ args aA.toList) (hn : aA.size <= n) : B7 ρ n ⟨cQ args 0 .leaf, []⟩ { tmps := aA ++ Array.replicate (n - aA.size) undef, defers := [] } := by
 have hl := hv.length
 simp at hl
 refine ⟨⟨by simp; omega, fun t => ?_⟩, .nil⟩
 unfold Fr.get;simp only
 rw [G5, Tr.zD];by_cases h : 0 <= t /\ t < 0 + args.length
 ·rw [if_pos h]
  have bg : t < args.length := by omega
  obtain ⟨v', g1, g2⟩ := hv.get t args[t] (lp bg)
  rw [show t - 0 = t by omega, lp bg];rw [Array.getD_eq_getD_getElem?, Array.getElem?_append_left (by omega)];rw [Array.getElem?_toList] at g1;rw [g1];exact g2
 ·rw [if_neg h]
  have bg : aA.size <= t := by omega
  have e : (aA ++ Array.replicate (n - aA.size) undef).getD t undef = undef := by
   rw [Array.getD_eq_getD_getElem?, Array.getElem?_append_right bg, Array.getElem?_replicate]
   split <;> rfl
  rw [e];exact .undef
theorem xA {base : Nat} {ρ : eF} {m : Mem} {w : World} {fr : Fr} {a : Act} (hR : R base ρ m w) (hF : FR ρ n fr a) : ∀ (rs : List ResultVar) (Vm : List mq) (vs : List EV), rs.mapM (Am P) = some Vm -> bP fr m Vm = some vs ->
  ∃ uI, (rs.mapM fun r => (match r with | .tmp t => pure (a.tmps.getD t undef) | .cell ad t => do loadVar t (<- asAddr (a.tmps.getD ad undef)) : Sem Value)).run P w = .ok uI w /\ fB ρ vs uI
 | [], Vm, vs, hc, h => by
  simp at hc; subst hc
  simp [bP] at h; subst h
  exact ⟨[], rfl, .nil⟩
 | r :: rs, Vm, vs, hc, h => by
  rw [List.mapM_cons] at hc
  cases hr : Am P r with
  | none => simp [hr] at hc
  | some ir =>
  cases Xw : rs.mapM (Am P) with
  | none => simp [hr, Xw] at hc
  | some aaZ =>
  simp [hr, Xw] at hc
  subst hc;simp only [bP] at h
  cases hv : zS fr m ir with
  | none => simp [hv] at h
  | some v =>
  simp only [hv] at h;obtain ⟨vs0, h0, rfl⟩ := ag h
  obtain ⟨uI, r1, r2⟩ := xA hR hF rs aaZ vs0 Xw h0
  cases r with
  | tmp t =>
   simp only [Am, bj] at hr; subst hr
   simp only [zS, bj] at hv; subst hv
   exact ⟨a.tmps.getD t undef :: uI, by simp only [List.mapM_cons, Sem.run_bind, Sem.run_pure, Result.andThen_ok, r1], .cons (hF.tmp t) r2⟩
  | cell ad t =>
   simp only [Am] at hr;obtain ⟨g, hg, rfl⟩ := ag hr
   simp only [zS] at hv;obtain ⟨ad', v', e1, e2, e3⟩ := xD (P := P) hR hg (hF.tmp ad) hv
   have ea : (asAddr (a.tmps.getD ad undef)).run P w = .ok ad' w := by rw [e1]; rfl
   exact ⟨v' :: uI, by simp only [List.mapM_cons, Sem.run_bind, ea, Sem.run_pure, Result.andThen_ok, e2, r1], .cons e3 r2⟩
theorem OH {ρ : eF} {vs : List EV} {uI : List Value} (h : fB ρ vs uI) : VR ρ (one vs) (if hh : (⟨uI⟩ : Array Value).size = 1 then (⟨uI⟩ : Array Value)[0] else .tuple ⟨uI⟩) := by
 cases h with
 | nil => exact .tuple .nil
 | cons hx hs =>
  cases hs with
  | nil => simpa [one] using hx
  | cons hy hs =>
   simp only [one];rw [dif_neg (by simp)];exact .tuple (.cons hx (.cons hy hs))
def Sp (P : Program) (G : List Nat) (g : Nat) (b : Option Nat) (FD : az) : Prop := ∃ fn, P.funcs[g]? = some fn /\ match b with
 | none => bW P G fn = some FD
 | some d => NY P G fn = some (d, FD)
def KD (P : Program) (G : List Nat) (f : Nat) : iM -> Prop
 | .go F => ∃ fn, P.funcs[f]? = some fn /\ bW P G fn = some F
 | .ext g => ∀ base ρ m w args (aA : Array Value) v, R base ρ m w -> fB ρ args aA.toList -> g args = some v -> ∃ v', (callFunc f aA).run P w = .ok (.value v') w /\ VR ρ v v'
 | .pure g => ∀ base ρ m w args (aA : Array Value) v, R base ρ m w -> fB ρ args aA.toList -> g args = some v -> (callFunc f aA).run P w = .ok (.enter f aA) w /\ Calls P f aA w (nR base ρ m w (.ret v m))
 | .spec g => ∀ base ρ m w args (aA : Array Value) fin, R base ρ m w -> jJ G ρ -> fB ρ args aA.toList -> g args m = some fin -> (callFunc f aA).run P w = .ok (.enter f aA) w /\ Calls P f aA w (nR base ρ m w fin)
 | .NV F D => (∃ fn, P.funcs[f]? = some fn /\ bW P G fn = some F) /\ ∀ g b FD, mG g D = some (b, FD) -> Sp P G g b FD
theorem yd {base : Nat} {ρ : eF} {m : Mem} {w : World} {fr : Fr} {a : Act} {fn : Func} {r : List mq} (CU : fn.results.toList.mapM (Am P) = some r) (hR : R base ρ m w) (hF : FR ρ n fr a) {vs : List EV} (yk : bP fr m r = some vs) :
  ∃ v, (results fn a.tmps).run P w = .ok v w /\ VR ρ (one vs) v := by
 obtain ⟨uI, r1, r2⟩ := xA (P := P) hR hF fn.results.toList r vs CU yk
 refine ⟨_, ?_, OH r2⟩
 simp only [results, Sem.run_bind];rw [Array.mapM_eq_mapM_toList, Sem.run_map]
 erw [r1]
 rfl
theorem Fa {fn : Func} {F : az} (hc : bW P G fn = some F) : ∃ c b r, fn.body = some c /\ (fn.name == "runtime.NumGoroutine") = false /\ gj P G fn.ntmps c = some b /\ fn.results.toList.mapM (Am P) = some r /\ F = ⟨fn.ntmps, b, r⟩ := by
 unfold bW at hc
 cases hb : fn.body with
 | none => simp [hb] at hc
 | some c =>
 simp only [hb] at hc
 cases JN : fn.name == "runtime.NumGoroutine" <;> simp only [JN, cond_true, cond_false, reduceCtorEq] at hc
 cases va : gj P G fn.ntmps c with
 | none => simp [va] at hc
 | some b =>
 cases CU : fn.results.toList.mapM (Am P) with
 | none => simp [va, CU] at hc
 | some r =>
 simp only [va, CU, bj] at hc;exact ⟨c, b, r, rfl, rfl, va, rfl, hc.symm⟩
theorem Pz {fn : Func} {d : Nat} {F : az} (hc : NY P G fn = some (d, F)) : ∃ c b r, fn.body = some c /\ (fn.name == "runtime.NumGoroutine") = false /\ iZ P G fn.ntmps c = some (d, b) /\ fn.results.toList.mapM (Am P) = some r /\ F = ⟨fn.ntmps, b, r⟩ := by
 unfold NY at hc
 cases hb : fn.body with
 | none => simp [hb] at hc
 | some c =>
 simp only [hb] at hc
 cases JN : fn.name == "runtime.NumGoroutine" <;> simp only [JN, cond_true, cond_false, reduceCtorEq] at hc
 cases va : iZ P G fn.ntmps c with
 | none => simp [va] at hc
 | some q =>
 obtain ⟨d', b⟩ := q
 cases CU : fn.results.toList.mapM (Am P) with
 | none => simp [va, CU] at hc
 | some r =>
 simp only [va, CU, bj, eQ] at hc;obtain ⟨rfl, rfl⟩ := hc
 exact ⟨c, b, r, rfl, rfl, va, rfl, rfl⟩
theorem wX {f : Nat} {fn : Func} (hf : P.funcs[f]? = some fn) {c : Code} (hb : fn.body = some c) (JN : (fn.name == "runtime.NumGoroutine") = false) {aA : Array Value} {w : World} : (callFunc f aA).run P w = .ok (.enter f aA) w := by
 simp [callFunc, hf, hb]
 simpa using JN
theorem N0 (iK : P.follows .mixedOrders = true) (bI : pK P G call) (k : Nat) {base : Nat} {fn : Func} {c : Code} {b : aE} {r : List mq} (va : gj P G fn.ntmps c = some b) (CU : fn.results.toList.mapM (Am P) = some r) {args : List EV} {m : Mem} {fin : Fin} (h : dG call k ⟨fn.ntmps, b, r⟩ args m = some fin)
  {ρ : eF} {w : World} {aA : Array Value} (hR : R base ρ m w) (hG : jJ G ρ) (hv : fB ρ args aA.toList) :
  c.wp P (bodyPost P fn (nR base ρ m w fin)) { tmps := aA ++ Array.replicate (fn.ntmps - aA.size) undef, defers := [] } w := by
 have hl := hv.length
 simp at hl
 unfold dG at h
 cases hargs : args.length.ble fn.ntmps with
 | false => simp [hargs] at h
 | true =>
 simp only [hargs, cond_true] at h;have hn : aA.size <= fn.ntmps := by have := rc hargs; omega
 cases h1 : aw call k b ⟨cQ args 0 .leaf, []⟩ m with
 | none => simp [h1] at h
 | some o1 =>
  simp only [h1] at h;have hw := iq iK bI k c b va ρ m w _ _ o1 hR hG (vg hv hn) h1
  refine wp_mono hw fun e a1 w1 hq => ?_
  have done : ∀ {fY : Fr} {m1 : Mem} {ρ1 : eF}, R base ρ1 m1 w1 -> Step ρ m w ρ1 m1 w1 -> B7 ρ1 fn.ntmps fY a1 -> (match fY.defers with | [] => (bP fY m1 r).map fun vs => Fin.ret (one vs) m1 | _ => none) = some fin ->
    a1.defers = [] /\ ∃ v, (results fn a1.tmps).run P w1 = .ok v w1 /\ nR base ρ m w fin (.returned v) w1 := by
   intro fY m1 ρ1 lK hs wL xX
   have hd := wL.F5
   cases FU : fY.defers with
   | cons x l => simp [FU] at xX
   | nil =>
    rw [FU] at hd;simp only [FU] at xX;obtain ⟨vs, yk, rfl⟩ := ag xX
    obtain ⟨v, r1, r2⟩ := yd CU lK wL.tm yk
    exact ⟨hd.Ll, v, r1, ρ1, v, rfl, r2, lK, hs⟩
  cases o1 with
  | norm fY m1 =>
   obtain ⟨rfl, ρ1, lK, hs, wL⟩ := hq
   exact done lK hs wL h
  | ret fY m1 =>
   obtain ⟨rfl, ρ1, lK, hs, wL⟩ := hq
   exact done lK hs wL h
  | exit id fY m1 => simp at h
  | gO v fY m1 =>
   obtain ⟨ρ1, v', rfl, zu, lK, hs, wL⟩ := hq
   simp only at h
   have hd := wL.F5
   cases FU : fY.defers with
   | cons x l => simp [FU] at h
   | nil =>
    rw [FU] at hd;simp only [FU, bj] at h;subst h;exact ⟨hd.Ll, ρ1, v', rfl, zu, lK, hs⟩
theorem Fg (iK : P.follows .mixedOrders = true) (bI : pK P G call) (k : Nat) {base : Nat} {f : Nat} {fn : Func} (hf : P.funcs[f]? = some fn) {F : az} (hc : bW P G fn = some F) {args : List EV} {m : Mem} {fin : Fin} (h : dG call k F args m = some fin)
  {ρ : eF} {w : World} {aA : Array Value} (hR : R base ρ m w) (hG : jJ G ρ) (hv : fB ρ args aA.toList) :
  (callFunc f aA).run P w = .ok (.enter f aA) w /\ Calls P f aA w (nR base ρ m w fin) := by
 obtain ⟨c, b, r, hb, JN, va, CU, rfl⟩ := Fa hc
 exact ⟨wX hf hb JN, calls_of_wp hf hb (N0 iK bI k va CU h hR hG hv)⟩
def uw (ρ : eF) (u : Option EV) (md : FrameMode) : Prop := match u with
 | none => md = .returning
 | some v => ∃ v', md = .panicking [{ v := v', recovered := false }] /\ VR ρ v v'
theorem uw.ext {ρ ρ' : eF} (e : Ext ρ ρ') {u : Option EV} {md : FrameMode} (h : uw ρ u md) : uw ρ' u md := by
 cases u with
 | none => exact h
 | some v => obtain ⟨v', h1, h2⟩ := h; exact ⟨v', h1, h2.ext e⟩
theorem uw.run {ρ : eF} {u : Option EV} {md : FrameMode} (h : uw ρ u md) : md ≠ .run := by
 cases u with
 | none => cases h; simp
 | some v => obtain ⟨v', rfl, _⟩ := h; simp
theorem uw.settle {ρ : eF} {u : Option EV} {md : FrameMode} (h : uw ρ u md) : Go.settle md = md := by
 cases u with
 | none => cases h; rfl
 | some v => obtain ⟨v', rfl, _⟩ := h; rfl
theorem uw.got {ρ : eF} {u : Option EV} {md : FrameMode} (h : uw ρ u md) (c₀ : Frame) (cs : List Frame) (hm : c₀.mode = md) : ∃ v' u', VR ρ (u.getD .aJ) v' /\ Go.settle u' = .returning /\
  ((recoverD (c₀ :: cs) = none /\ v' = .nilIface /\ ({ c₀ with mode := u' } : Frame) = c₀) \/ recoverD (c₀ :: cs) = some (v', { c₀ with mode := u' } :: cs)) := by
 cases u with
 | none =>
  cases h
  refine ⟨.nilIface, .returning, .aJ, rfl, .inl ⟨by simp [recoverD, hm], rfl, ?_⟩⟩
  cases c₀; cases hm; rfl
 | some v =>
  obtain ⟨v', rfl, hv⟩ := h
  exact ⟨v', .panicking [{ v := v', recovered := true }], hv, rfl, .inr (by simp [recoverD, hm])⟩
theorem IS {c : Code} {Q Q' : Exit -> Act -> List Frame -> World -> Prop} {a : Act} {cs : List Frame} {w : World} (h : c.wpS P Q a cs w) (hq : ∀ e a cs w, Q e a cs w -> Q' e a cs w) : c.wpS P Q' a cs w :=
 fun b k h1 h2 => let ⟨e, a', mf, w', q, r⟩ := h b k h1 h2; ⟨e, a', mf, w', hq _ _ _ _ q, r⟩
theorem O5 {o : Oper} (h : Ng o = true) : o.guard = none /\ ∃ ts, o.op = .call ⟨.builtin .recover, #[], ts⟩ := by
 unfold Ng at h
 split at h
 ·rename_i xs ts h1 h2
  have : xs = #[] := by simpa using h
  subst this;exact ⟨h2, ts, h1⟩
 ·cases h
theorem BE (iK : P.follows .mixedOrders = true) (bI : pK P G call) (k : Nat) {base : Nat} {u : Option EV} {md : FrameMode} {ρ : eF} {m : Mem} {w : World} (hR : R base ρ m w) (hG : jJ G ρ) (hu : uw ρ u md) (c₀ : Frame) (cs : List Frame) (hm : c₀.mode = md) :
  ∀ (c : Code) (d : Nat) (ic : aE), iZ P G n c = some (d, ic) -> ∀ (fr : Fr) (a : Act) (out : Out), B7 ρ n fr a -> aw call k ic (fr.set d (u.getD .aJ)) m = some out ->
   c.wpS P (fun e a' mf w' => (∃ u', mf = { c₀ with mode := u' } :: cs /\ Go.settle u' = .returning) /\ Reach base n ρ m w out e a' w') a (c₀ :: cs) w
 | .region id ops false, d, ic, hc, fr, a, out, hF, h => by
  simp only [iZ] at hc
  cases Rv : ops.toList with
  | nil => simp [Rv] at hc
  | cons o r =>
   simp only [Rv] at hc
   cases XA : Ng o <;> simp only [XA, cond_true, cond_false, reduceCtorEq] at hc
   cases nJ : o.dst with
   | none => simp [nJ] at hc
   | some d' =>
   simp only [nJ] at hc
   cases bg : Nat.ble (d' + 1) n <;> simp only [bg, cond_true, cond_false, reduceCtorEq] at hc
   obtain ⟨is, TD, xx⟩ := ag hc
   simp only [eQ] at xx;obtain ⟨rfl, rfl⟩ := xx
   obtain ⟨nY, ts, lJ⟩ := O5 XA
   obtain ⟨v', u', hv, Ro, abz⟩ := hu.got c₀ cs hm
   simp only [aw] at h;have wL : B7 ρ n (fr.set d' (u.getD .aJ)) (a.put o.dst v') := by
    rw [nJ];exact hF.put (d := some d') (fun x hx => by cases hx; exact rc bg) hv
   have Xv : ops.size = r.length + 1 := by rw [<- Array.length_toList, Rv]; rfl
   have ho : ops[0]? = some o := by rw [<- Array.getElem?_toList, Rv]; rfl
   obtain ⟨h1, h2⟩ := mapM_some _ TD
   have XE : wpOps P ops (Reach base n ρ m w out) ((List.range r.length).map Nat.succ) (a.put o.dst v') w := by
    refine Gq bI is _ (by simpa using h1.symm) (fun j i io hj BV => ?_) ρ m w _ _ out hR hG wL h
    have bg : j < r.length := by
     have := (rn.1 hj).1
     simpa using this
    rw [List.getElem?_map, List.getElem?_range bg] at hj
    cases hj
    have hrj : r[j]? = some r[j] := lp bg
    refine ⟨r[j], ?_, h2 j r[j] io hrj BV⟩
    rw [<- Array.getElem?_toList, Rv, List.getElem?_cons_succ, hrj]
   intro b kk hb rj
   have hg := stepG_op (P := P) (b := b) (k := kk) (cs := c₀ :: cs) (w := w) (a := a) (rest := (List.range r.length).map Nat.succ) ho (by simp [Region.wanted, nY])
   have hr : (execOp a.eval o).run P w = .ok .recover w := by
    unfold execOp;rw [lJ]
    rfl
   have xX : ∀ v, (b.at a (.inRegion ops (0 :: (List.range r.length).map Nat.succ) :: kk)).finish v = b.at (a.put o.dst v) (.inRegion ops ((List.range r.length).map Nat.succ) :: kk) := by
    intro v; rw [Frame.finish_at, ho]; rfl
   have hk : (b.at a (.inRegion ops (0 :: (List.range r.length).map Nat.succ) :: kk)).kind = .deferred := hb
   have YS := tryRecover_deferred hk (c₀ :: cs)
   have Rm : step P (lone (b.at a (.inRegion ops (0 :: (List.range r.length).map Nat.succ) :: kk)) (c₀ :: cs) w) = .next (lone (b.at (a.put o.dst v') (.inRegion ops ((List.range r.length).map Nat.succ) :: kk)) ({ c₀ with mode := u' } :: cs) w) := by
    refine step_lone_go ?_
    rw [hg, <- xX];rcases abz with ⟨g1, rfl, g3⟩ | g1
    ·rw [g3]
     simp only [Frame.at] at YS ⊢
     simp [stepG.apply, hr, YS, g1]
    ·simp only [Frame.at] at YS ⊢
     simp [stepG.apply, hr, YS, g1]
   obtain ⟨e, a', w', hq, rV⟩ := wp_ops _ _ _ XE b kk ({ c₀ with mode := u' } :: cs)
   refine ⟨e, a', _, w', ⟨⟨u', rfl, Ro⟩, hq⟩, .of_steps (.head step_region ?_) rV⟩
   rw [Xv, List.range_succ_eq_map];exact .one Rm
 | .seq x y, d, ic, hc, fr, a, out, hF, h => by
  simp only [iZ] at hc
  cases hx : iZ P G n x with
  | none => simp [hx] at hc
  | some q =>
  obtain ⟨d', ix⟩ := q
  cases hy : gj P G n y with
  | none => simp [hx, hy] at hc
  | some iy =>
  simp only [hx, hy, bj, eQ] at hc;obtain ⟨rfl, rfl⟩ := hc
  simp only [aw] at h
  cases h1 : aw call k ix (fr.set d' (u.getD .aJ)) m with
  | none => simp [h1] at h
  | some o1 =>
   simp only [h1] at h;have hw := BE iK bI k hR hG hu c₀ cs hm x d' ix hx fr a o1 hF h1
   refine wpS_seq (IS hw fun e a1 cs1 w1 ⟨mF, hq⟩ => ?_)
   cases o1 with
   | norm fY m1 =>
    obtain ⟨rfl, ρ1, lK, hs, wL⟩ := hq
    have := iq iK bI k y iy hy ρ1 m1 w1 fY a1 out lK (hG.ext hs.ext) wL h
    exact wpS_of_wp (wp_mono this fun e a w hq => ⟨mF, hq.after hs⟩)
   | exit id fY m1 =>
    simp only [bj] at h; subst h
    have := hq; obtain ⟨rfl, _⟩ := this; exact ⟨mF, hq⟩
   | ret fY m1 =>
    simp only [bj] at h; subst h
    have := hq; obtain ⟨rfl, _⟩ := this; exact ⟨mF, hq⟩
   | gO v fY m1 =>
    simp only [bj] at h; subst h
    have := hq; obtain ⟨_, _, rfl, _⟩ := this; exact ⟨mF, hq⟩
 | .region id ops true, d, ic, hc, _, _, _, _, _ => by simp [iZ] at hc
 | .skip, d, ic, hc, _, _, _, _, _ => by simp [iZ] at hc
 | .label _, d, ic, hc, _, _, _, _, _ => by simp [iZ] at hc
 | .exit _, d, ic, hc, _, _, _, _, _ => by simp [iZ] at hc
 | .ret, d, ic, hc, _, _, _, _, _ => by simp [iZ] at hc
 | .cond _ _ _, d, ic, hc, _, _, _, _, _ => by simp [iZ] at hc
 | .block _ _, d, ic, hc, _, _, _, _, _ => by simp [iZ] at hc
 | .loop _, d, ic, hc, _, _, _, _, _ => by simp [iZ] at hc
 | .scope _, d, ic, hc, _, _, _, _, _ => by simp [iZ] at hc
 | .goto _, d, ic, hc, _, _, _, _, _ => by simp [iZ] at hc
 | .refuse _, d, ic, hc, _, _, _, _, _ => by simp [iZ] at hc
 | .rangeFunc _ _ _ _, d, ic, hc, _, _, _, _, _ => by simp [iZ] at hc
theorem Ks (iK : P.follows .mixedOrders = true) (bI : pK P G call) (k : Nat) {base : Nat} {f : Nat} {fn : Func} (hf : P.funcs[f]? = some fn) {d : Nat} {F : az} (hc : NY P G fn = some (d, F)) {args : List EV} {m m' : Mem} {u : Option EV} {md : FrameMode} (h : fI call k d F args u m = some m')
  {ρ : eF} {w : World} {aA : Array Value} (hR : R base ρ m w) (hG : jJ G ρ) (hv : fB ρ args aA.toList) (hu : uw ρ u md) :
  (callFunc f aA).run P w = .ok (.enter f aA) w /\ CallsD P f aA md w fun e u' w' => Go.settle u' = .returning /\ ∃ v ρ', e = .returned v /\ R base ρ' m' w' /\ Step ρ m w ρ' m' w' := by
 obtain ⟨c, b, r, hb, JN, va, CU, rfl⟩ := Pz hc
 refine ⟨wX hf hb JN, callsD_of_wpS hf hb fun c₀ cs hm => ?_⟩
 have hl := hv.length
 simp at hl
 unfold fI at h
 cases hargs : args.length.ble fn.ntmps with
 | false => simp [hargs] at h
 | true =>
 simp only [hargs, cond_true] at h;have hn : aA.size <= fn.ntmps := by have := rc hargs; omega
 cases h1 : aw call k b (Fr.set ⟨cQ args 0 .leaf, []⟩ d (u.getD .aJ)) m with
 | none => simp [h1] at h
 | some o1 =>
  simp only [h1] at h;have hw := BE iK bI k hR hG hu c₀ cs hm c d b va _ _ o1 (vg hv hn) h1
  refine IS hw fun e a1 cs1 w1 ⟨⟨u', mF, Ro⟩, hq⟩ => ?_
  have done : ∀ {fY : Fr} {m1 : Mem} {ρ1 : eF}, R base ρ1 m1 w1 -> Step ρ m w ρ1 m1 w1 -> B7 ρ1 fn.ntmps fY a1 -> (match fY.defers with | [] => (bP fY m1 r).map fun _ => m1 | _ => none) = some m' ->
    a1.defers = [] /\ ∃ u', cs1 = { c₀ with mode := u' } :: cs /\ ∃ v, (results fn a1.tmps).run P w1 = .ok v w1 /\ Go.settle u' = .returning /\ ∃ v2 ρ', Ending.returned v = .returned v2 /\ R base ρ' m' w1 /\ Step ρ m w ρ' m' w1 := by
   intro fY m1 ρ1 lK hs wL xX
   have hd := wL.F5
   cases FU : fY.defers with
   | cons x l => simp [FU] at xX
   | nil =>
    rw [FU] at hd;simp only [FU] at xX;obtain ⟨vs, yk, rfl⟩ := ag xX
    obtain ⟨v, r1, r2⟩ := yd CU lK wL.tm yk
    exact ⟨hd.Ll, u', mF, v, r1, Ro, v, ρ1, rfl, lK, hs⟩
  cases o1 with
  | norm fY m1 =>
   obtain ⟨rfl, ρ1, lK, hs, wL⟩ := hq
   exact done lK hs wL h
  | ret fY m1 =>
   obtain ⟨rfl, ρ1, lK, hs, wL⟩ := hq
   exact done lK hs wL h
  | exit id fY m1 => simp at h
  | gO v fY m1 => simp at h
theorem lx (iK : P.follows .mixedOrders = true) (bI : pK P G call) (k : Nat) {base : Nat} {fn : Func} {Vm : List mq} (CU : fn.results.toList.mapM (Am P) = some Vm) {D : List (Nat × Option Nat × az)} (hD : ∀ g b FD, mG g D = some (b, FD) -> Sp P G g b FD) {fr : Fr} {a : Act} {ρ0 : eF} {m0 : Mem} {w0 : World} {fin : Fin} :
  ∀ (ds : List (Nat × List EV)) (vo : List Deferred) (u : Option EV) (md : FrameMode) (ρ : eF) (m : Mem) (w : World), xH ρ ds vo -> uw ρ u md -> R base ρ m w -> jJ G ρ -> FR ρ n fr a -> Step ρ0 m0 w0 ρ m w -> cU call k Vm D fr ds u m = some fin -> Leaves P fn a.tmps (nR base ρ0 m0 w0 fin) vo md w
 | [], vo, u, md, ρ, m, w, CV, hu, hR, hG, hF, hs, h => by
  cases CV
  cases u with
  | none =>
   cases hu
   simp only [cU] at h;obtain ⟨vs, yk, rfl⟩ := ag h
   obtain ⟨v, r1, r2⟩ := yd CU hR hF yk
   exact ⟨v, r1, ρ, v, rfl, r2, hR, hs⟩
  | some v =>
   obtain ⟨v', rfl, hv⟩ := hu
   simp only [cU, bj] at h;subst h;exact ⟨ρ, v', rfl, hv, hR, hs⟩
 | (g, args) :: ds, vo, u, md, ρ, m, w, CV, hu, hR, hG, hF, hs, h => by
  cases CV with
  | @cons _ dd _ TV VP CV =>
  obtain ⟨c', Tu, hargs⟩ := VP
  simp only at Tu hargs
  have RH : fB ρ args (dd.args ++ c').toList := by rw [Array.toList_append]; exact hargs
  have hinv : ∀ {w : World}, (callFunc g (dd.args ++ c')).run P w = .ok (.enter g (dd.args ++ c')) w -> (invoke dd.target dd.args).run P w = .ok (.enter g (dd.args ++ c')) w := by
   intro w hh
   rw [Tu];exact hh
  simp only [cU] at h
  cases FU : mG g D with
  | none => simp [FU] at h
  | some q =>
  obtain ⟨b, FD⟩ := q
  obtain ⟨fn2, VM, KH⟩ := hD g b FD FU
  cases b with
  | some d =>
   simp only [FU] at h;simp only at KH
   cases hb : fI call k d FD args u m with
   | none => simp [hb] at h
   | some m1 =>
    simp only [hb] at h;obtain ⟨abC, LY⟩ := Ks iK bI k VM KH hb hR hG RH hu
    refine ⟨hu.run, _, _, g, _, Tu, hinv abC, LY.mono fun e u' w' hq => ?_⟩
    obtain ⟨Ro, v, ρ', rfl, lK, rT⟩ := hq
    show Leaves P fn a.tmps _ TV (Go.settle u') w'
    rw [Ro];exact lx iK bI k CU hD ds TV none .returning ρ' m1 w' (CV.ext rT.ext) rfl lK (hG.ext rT.ext) (hF.ext rT.ext) (hs.trans rT) h
  | none =>
   simp only [FU] at h;simp only at KH
   obtain ⟨c, b, r, UE, JN, va, abd, rfl⟩ := Fa KH
   cases hb : dG call k ⟨fn2.ntmps, b, r⟩ args m with
   | none => simp [hb] at h
   | some Yf =>
    simp only [hb] at h;have LY := callsD_of_wp (u := md) VM UE (N0 iK bI k va abd hb hR hG RH)
    refine ⟨hu.run, _, _, g, _, Tu, hinv (wX VM UE JN), LY.mono fun e u' w' hq => ?_⟩
    obtain ⟨rfl, hq⟩ := hq
    cases Yf with
    | ret v m1 =>
     obtain ⟨ρ', v', rfl, zu, lK, rT⟩ := hq
     show Leaves P fn a.tmps _ TV (Go.settle u') w'
     rw [hu.settle];exact lx iK bI k CU hD ds TV u u' ρ' m1 w' (CV.ext rT.ext) (hu.ext rT.ext) lK (hG.ext rT.ext) (hF.ext rT.ext) (hs.trans rT) h
    | gO v m1 =>
     cases u with
     | some x => cases h
     | none =>
      obtain ⟨ρ', v', rfl, zu, lK, rT⟩ := hq
      cases hu
      exact lx iK bI k CU hD ds TV (some v) _ ρ' m1 w' (CV.ext rT.ext) ⟨v', rfl, zu⟩ lK (hG.ext rT.ext) (hF.ext rT.ext) (hs.trans rT) h
theorem Kv (iK : P.follows .mixedOrders = true) (bI : pK P G call) (k : Nat) {base : Nat} {f : Nat} {fn : Func} (hf : P.funcs[f]? = some fn) {F : az} (hc : bW P G fn = some F) {D : List (Nat × Option Nat × az)} (hD : ∀ g b FD, mG g D = some (b, FD) -> Sp P G g b FD) {args : List EV} {m : Mem} {fin : Fin} (h : jC call k F D args m = some fin)
  {ρ : eF} {w : World} {aA : Array Value} (hR : R base ρ m w) (hG : jJ G ρ) (hv : fB ρ args aA.toList) :
  (callFunc f aA).run P w = .ok (.enter f aA) w /\ Calls P f aA w (nR base ρ m w fin) := by
 obtain ⟨c, b, r, hb, JN, va, CU, rfl⟩ := Fa hc
 refine ⟨wX hf hb JN, calls_of_wp_defers hf hb ?_⟩
 have hl := hv.length
 simp at hl
 unfold jC at h
 cases hargs : args.length.ble fn.ntmps with
 | false => simp [hargs] at h
 | true =>
 simp only [hargs, cond_true] at h;have hn : aA.size <= fn.ntmps := by have := rc hargs; omega
 cases h1 : aw call k b ⟨cQ args 0 .leaf, []⟩ m with
 | none => simp [h1] at h
 | some o1 =>
  simp only [h1] at h;have hw := iq iK bI k c b va ρ m w _ _ o1 hR hG (vg hv hn) h1
  refine wp_mono hw fun e a1 w1 hq => ?_
  cases o1 with
  | norm fY m1 =>
   obtain ⟨rfl, ρ1, lK, hs, wL⟩ := hq
   exact lx iK bI k CU hD _ _ none .returning ρ1 m1 w1 wL.F5 rfl lK (hG.ext hs.ext) wL.tm hs h
  | ret fY m1 =>
   obtain ⟨rfl, ρ1, lK, hs, wL⟩ := hq
   exact lx iK bI k CU hD _ _ none .returning ρ1 m1 w1 wL.F5 rfl lK (hG.ext hs.ext) wL.tm hs h
  | exit id fY m1 => simp at h
  | gO v fY m1 =>
   obtain ⟨ρ1, v', rfl, zu, lK, hs, wL⟩ := hq
   exact lx iK bI k CU hD _ _ (some v) _ ρ1 m1 w1 wL.F5 ⟨v', rfl, zu⟩ lK (hG.ext hs.ext) wL.tm hs h
theorem E2 (iK : P.follows .mixedOrders = true) {T : Nat -> Option iM} (hT : ∀ f e, T f = some e -> KD P G f e) : ∀ k, pK P G (aW T k)
 | 0 => fun f args m fin h => by simp [aW] at h
 | k + 1 => fun f args m fin h base ρ w aA hR hG hv => by
  simp only [aW] at h
  cases he : T f with
  | none => simp [he] at h
  | some e =>
   simp only [he] at h;have eu := hT f e he
   cases e with
   | go F =>
    obtain ⟨fn, hf, hc⟩ := eu
    exact .inl (Fg iK (E2 iK hT k) k hf hc h hR hG hv)
   | ext g =>
    simp only [iD] at h;obtain ⟨v, hg, rfl⟩ := ag h
    obtain ⟨v', h1, h2⟩ := eu base ρ m w args aA v hR hv hg
    exact .inr ⟨v, v', rfl, h1, h2⟩
   | pure g =>
    simp only [iD] at h;obtain ⟨v, hg, rfl⟩ := ag h
    exact .inl (eu base ρ m w args aA v hR hv hg)
   | spec g =>
    simp only [iD] at h;exact .inl (eu base ρ m w args aA fin hR hG hv h)
   | NV F D =>
    obtain ⟨⟨fn, hf, hc⟩, hD⟩ := eu
    exact .inl (Kv iK (E2 iK hT k) k hf hc hD h hR hG hv)
end
end
section
def G : List Nat := [0, 1, 2]
abbrev iV (d : Nat) (o : lL) : bd := ⟨some d, .val o, none⟩
abbrev iN (o : lL) : bd := ⟨none, .val o, none⟩
abbrev iG (d : Nat) (o : lL) (g : Nat) (b : Bool) : bd := ⟨some d, .val o, some (g, b)⟩
abbrev iC (d f : Nat) (a : List aZ) : bd := ⟨some d, .call (.const (.func f [] [])) a, none⟩
abbrev iH (d f : Nat) (a : List aZ) (g : Nat) (b : Bool) : bd := ⟨some d, .call (.const (.func f [] [])) a, some (g, b)⟩
abbrev tm (t : Nat) : aZ := .tmp t
abbrev kI (n : Int) : aZ := .const (.int .i64 n)
abbrev kS (s : List UInt8) : aZ := .const (.str s)
abbrev YG : Nat := 2
abbrev aP : Nat := 3
abbrev Zm : Nat := 4
abbrev YF : Nat := 5
abbrev IJ : Nat := 6
abbrev II : Nat := 8
abbrev dT : Nat := 9
abbrev IH : Nat := 10
abbrev IY : Nat := 11
abbrev Wk : Nat := 12
abbrev BL : Nat := 14
abbrev AM : Nat := 15
abbrev FA : Nat := 16
abbrev SL : Nat := 17
abbrev Ea : Nat := 19
abbrev YH : Nat := 21
abbrev Uf : Nat := 22
abbrev SK : Nat := 23
abbrev au : Nat := 25
abbrev Ss : Nat := 31
abbrev YI : Nat := 34
abbrev ap : Nat := 36
abbrev ba : Nat := 39
abbrev PO : Nat := 42
abbrev ah : Nat := 45
abbrev PN : Nat := 57
abbrev eV : Nat := 59
abbrev ai : Nat := 63
abbrev UW : Nat := 81
abbrev Wl : Nat := 86
abbrev Qe : Nat := 89
abbrev cT : Nat := 93
abbrev Zl : Nat := 99
abbrev WY : Nat := 101
abbrev lq : Nat := 105
abbrev BM : Nat := 108
abbrev Gf : Nat := 111
abbrev Ug : Nat := 112
abbrev UU : Nat := 113
abbrev Wm : Nat := 115
abbrev Sr : Nat := 116
abbrev Sq : Nat := 117
abbrev US : Nat := 119
abbrev Oq : Nat := 120
/- balustrade/balustradelaw08.ParseStands -/
abbrev lS : Nat := 4
def di : aE :=
 (.seq
 (.seq
 (.region [iV 39 (.ab (tm 8)),
 iV 40 (.ab (tm 5)),
 iV 41 (.len (tm 40)),
 iV 42 (.bin .lss (tm 39) (tm 41))])
 (.cond (.tmp 42)
 .skip
 (.exit 0)))
 (.seq
 (.block 1
 (.region [iV 45 (.ab (tm 7)),
 iV 46 (.ab (tm 5)),
 iV 47 (.ab (tm 8)),
 iV 48 (.ee 4 (tm 46) (tm 47)),
 iV 49 (.aj 3 (tm 48)),
 iV 50 (.load none (tm 49)),
 iV 51 (.bB 3 1 1 [(.int .i64 0)] [(0, (tm 50))]),
 iV 52 (.append 3 1 8 (tm 45) (tm 51)),
 iV 7 (.ab (tm 52))]))
 (.region [iV 43 (.ab (tm 8)),
 iV 44 (.bin .add (tm 43) (kI 1)),
 iV 8 (.ab (tm 44))])))
def ej : aE :=
 (.seq
 (.seq
 (.region [iV 68 (.ab (tm 9)),
 iV 69 (.ab (tm 3)),
 iV 70 (.len (tm 69)),
 iV 71 (.bin .lss (tm 68) (tm 70))])
 (.cond (.tmp 71)
 .skip
 (.exit 2)))
 (.seq
 (.block 3
 (.seq
 (.region [iV 74 (.ab (tm 7)),
 iV 75 (.ab (tm 3)),
 iV 76 (.ab (tm 9)),
 iV 77 (.ee 5 (tm 75) (tm 76)),
 iV 78 (.aj 4 (tm 77)),
 iV 79 (.load none (tm 78)),
 iC 80 10 [(tm 74), (tm 79)],
 iV 81 (.un .not (tm 80))])
 (.cond (.tmp 81)
 (.seq
 (.region [iV 2 (.ab (.const (.bool false)))])
 .ret)
 .skip)))
 (.region [iV 72 (.ab (tm 9)),
 iV 73 (.bin .add (tm 72) (kI 1)),
 iV 9 (.ab (tm 73))])))
def cj : az :=
 ⟨87,
 (.seq
 (.region [iV 2 (.ab (.const (.bool false)))])
 (.seq
 (.seq
 (.region [iV 10 (.ab (tm 0)),
 iV 11 (.cH (tm 10)),
 iV 12 (.bin .gtr (tm 11) (kI 1000))])
 (.cond (.tmp 12)
 (.seq
 (.region [iC 13 8 [],
 iV 2 (.ab (tm 13))])
 .ret)
 .skip))
 (.seq
 (.region [iV 15 (.ab (tm 0)),
 iC 16 6 [(tm 15)],
 iV 14 (.ab (tm 16)),
 iV 17 (.extract (tm 14) 0),
 iV 18 (.extract (tm 14) 1),
 iV 4 (.alloc 25 [(.int .i64 0), (.int .i64 0)]),
 iV 3 (.ab (tm 17)),
 iN (.store 2 (tm 4) (tm 18))])
 (.seq
 (.region [iV 20 (.ab (tm 0)),
 iC 21 9 [(tm 20)],
 iV 19 (.ab (tm 21)),
 iV 22 (.extract (tm 19) 0),
 iV 23 (.extract (tm 19) 1),
 iV 6 (.alloc 25 [(.int .i64 0), (.int .i64 0)]),
 iV 5 (.ab (tm 22)),
 iN (.store 2 (tm 6) (tm 23))])
 (.seq
 (.seq
 (.region [iV 24 (.aj 0 (tm 6)),
 iV 25 (.load none (tm 24)),
 iV 26 (.eq true (.aL 1) (tm 25) (kI 0))])
 (.cond (.tmp 26)
 (.seq
 (.region [iV 27 (.ab (tm 3)),
 iV 28 (.len (tm 27)),
 iV 29 (.eq false (.aL 1) (tm 28) (kI 0)),
 iV 30 (.ab (tm 29)),
 iG 31 (.load (some 2) (tm 4)) 30 true,
 iG 32 (.load (some 2) (tm 6)) 30 true,
 iG 33 (.eq false (.agg [(none, 0, (.aL 1)), (none, 1, (.aL 1))]) (tm 31) (tm 32)) 30 true,
 iV 34 (.pick (tm 30) (tm 33) (.const (.bool false))),
 iV 35 (.ab (tm 34)),
 iH 36 8 [] 35 true,
 iV 37 (.pick (tm 35) (tm 36) (.const (.bool false))),
 iV 2 (.ab (tm 37))])
 .ret)
 .skip))
 (.seq
 (.region [iV 38 (.bB 3 1 1 [(.int .i64 0)] [(0, (kI 0))]),
 iV 7 (.ab (tm 38))])
 (.seq
 (.seq
 (.region [iV 8 (.ab (kI 0))])
 (.block 0
 (.loop di)))
 (.seq
 (.seq
 (.region [iV 53 (.aj 0 (tm 4)),
 iV 54 (.load none (tm 53)),
 iV 55 (.eq true (.aL 1) (tm 54) (kI 0))])
 (.cond (.tmp 55)
 (.seq
 (.region [iV 56 (.ab (tm 3)),
 iV 57 (.len (tm 56)),
 iV 58 (.eq false (.aL 1) (tm 57) (kI 0)),
 iV 59 (.ab (tm 58)),
 iG 60 (.ab (tm 7)) 59 true,
 iG 61 (.aj 1 (tm 4)) 59 true,
 iG 62 (.load none (tm 61)) 59 true,
 iH 63 10 [(tm 60), (tm 62)] 59 true,
 iV 64 (.pick (tm 59) (tm 63) (.const (.bool false))),
 iV 65 (.ab (tm 64)),
 iH 66 8 [] 65 true,
 iV 67 (.pick (tm 65) (tm 66) (.const (.bool false))),
 iV 2 (.ab (tm 67))])
 .ret)
 .skip))
 (.seq
 (.seq
 (.region [iV 9 (.ab (kI 0))])
 (.block 2
 (.loop ej)))
 (.seq
 (.region [iV 82 (.ab (tm 3)),
 iC 83 7 [(tm 82)],
 iV 84 (.ab (tm 83)),
 iH 85 8 [] 84 true,
 iV 86 (.pick (tm 84) (tm 85) (.const (.bool false))),
 iV 2 (.ab (tm 86))])
 .ret)))))))))),
 [.tmp 2]⟩
theorem ok4 : bW Tryd.prog G Tryd.f4 = some cj := by kernel_rfl
/- balustrade/parse.Parse -/
abbrev FO : Nat := 6
def bE : aE :=
 (.seq
 (.seq
 (.region [iV 20 (.load (some 1) (tm 6)),
 iC 21 14 [(tm 20)],
 iV 22 (.ab (tm 21)),
 iG 23 (.aj 0 (tm 6)) 22 true,
 iG 24 (.load none (tm 23)) 22 true,
 iH 25 15 [(tm 24)] 22 true,
 iG 26 (.A5 none 0 (tm 25)) 22 true,
 iG 27 (.eq true (.aL 1) (tm 26) (kI 0)) 22 true,
 iV 28 (.pick (tm 22) (tm 27) (.const (.bool false)))])
 (.cond (.tmp 28)
 .skip
 (.exit 0)))
 (.block 1
 (.seq
 (.seq
 (.region [iV 29 (.ab (tm 7)),
 iV 30 (.len (tm 29)),
 iV 31 (.eq false (.aL 1) (tm 30) (kI 200)),
 iV 32 (.ab (tm 31)),
 iG 33 (.aj 0 (tm 6)) 32 true,
 iG 34 (.load none (tm 33)) 32 true,
 iH 35 16 [(tm 34), (kS [102, 110])] 32 true,
 iV 36 (.pick (tm 32) (tm 35) (.const (.bool false)))])
 (.cond (.tmp 36)
 (.draw [iV 37 (.aj 0 (tm 6)),
 iV 38 (.load none (tm 37)),
 iV 39 (.aj 0 (tm 6)),
 iV 40 (.load none (tm 39)),
 iC 41 15 [(tm 40)],
 iV 42 (.A5 none 3 (tm 41)),
 iC 43 17 [(tm 38), (kI 3), (tm 42)]] [(1, 4)])
 .skip))
 (.region [iV 44 (.ab (tm 7)),
 iV 45 (.load (some 1) (tm 6)),
 iC 46 18 [(tm 45)],
 iV 47 (.bB 3 1 1 [(.int .i64 0)] [(0, (tm 46))]),
 iV 48 (.append 3 1 8 (tm 44) (tm 47)),
 iV 7 (.ab (tm 48))]))))
def eW : az :=
 ⟨64,
 (.seq
 (.region [iV 2 (.ab (.const .ae)),
 iV 3 (.alloc 25 [(.int .i64 0), (.int .i64 0)])])
 (.seq
 (.region [iV 9 (.ab (tm 0)),
 iC 10 12 [(tm 9)],
 iV 8 (.ab (tm 10)),
 iV 11 (.extract (tm 8) 0),
 iV 12 (.extract (tm 8) 1),
 iV 5 (.alloc 25 [(.int .i64 0), (.int .i64 0)]),
 iV 4 (.ab (tm 11)),
 iN (.store 2 (tm 5) (tm 12))])
 (.seq
 (.seq
 (.region [iV 13 (.aj 0 (tm 5)),
 iV 14 (.load none (tm 13)),
 iV 15 (.eq true (.aL 1) (tm 14) (kI 0))])
 (.cond (.tmp 15)
 (.seq
 (.draw [iV 16 (.load (some 2) (tm 5)),
 iV 2 (.ab (.const .ae)),
 iN (.store 2 (tm 3) (tm 16))] [])
 .ret)
 .skip))
 (.seq
 (.region [iV 17 (.ab (tm 4)),
 iC 18 13 [(tm 17)],
 iV 19 (.build [.bN] [(0, 1, (tm 18))]),
 iV 6 (.alloc 45 [.bN]),
 iN (.store 1 (tm 6) (tm 19))])
 (.seq
 (.region [iV 7 (.ab (.const .ae))])
 (.seq
 (.block 0
 (.loop bE))
 (.seq
 (.region [iV 49 (.aj 0 (tm 6)),
 iV 50 (.load none (tm 49)),
 iV 51 (.ab (tm 7)),
 iV 52 (.build [(.int .i64 0), .ae, (.int .i64 0), (.str []), (.int .i64 0)] [(0, 1, (kI 26)), (1, 1, (tm 51))]),
 iC 53 19 [(tm 50), (tm 52)]])
 (.seq
 (.seq
 (.region [iV 54 (.load (some 1) (tm 6)),
 iC 55 14 [(tm 54)],
 iV 56 (.un .not (tm 55))])
 (.cond (.tmp 56)
 (.seq
 (.region [iV 57 (.aj 0 (tm 6)),
 iV 58 (.load none (tm 57)),
 iC 59 20 [(tm 58)],
 iV 2 (.ab (.const .ae)),
 iN (.store 2 (tm 3) (tm 59))])
 .ret)
 .skip))
 (.seq
 (.region [iV 60 (.aj 0 (tm 6)),
 iV 61 (.load none (tm 60)),
 iC 62 21 [(tm 61)],
 iV 63 (.build [(.int .i64 0), (.int .i64 0)] []),
 iV 2 (.ab (tm 62)),
 iN (.store 2 (tm 3) (tm 63))])
 .ret))))))))),
 [.tmp 2, .cell 3 (some 2)]⟩
theorem ok6 : bW Tryd.prog G Tryd.f6 = some eW := by kernel_rfl
/- balustrade/balustraderef06.Whole -/
abbrev Bu : Nat := 7
def hU : az :=
 ⟨15,
 (.seq
 (.region [iV 2 (.ab (.const (.bool false)))])
 (.seq
 (.region [iV 3 (.ab (tm 0)),
 iC 4 22 [(tm 3)],
 iV 5 (.ab (tm 4)),
 iG 6 (.ab (tm 0)) 5 true,
 iG 7 (.ab (tm 0)) 5 true,
 iG 8 (.len (tm 7)) 5 true,
 iG 9 (.bin .sub (tm 8) (kI 1)) 5 true,
 iG 10 (.ee 5 (tm 6) (tm 9)) 5 true,
 iG 11 (.aj 0 (tm 10)) 5 true,
 iG 12 (.load none (tm 11)) 5 true,
 iG 13 (.eq false (.aL 1) (tm 12) (kI 26)) 5 true,
 iV 14 (.pick (tm 5) (tm 13) (.const (.bool false))),
 iV 2 (.ab (tm 14))])
 .ret)),
 [.tmp 2]⟩
theorem ok7 : bW Tryd.prog G Tryd.f7 = some hU := by kernel_rfl
/- balustrade/balustradelaw08.works -/
abbrev Uo : Nat := 8
def lH : az :=
 ⟨33,
 (.seq
 (.region [iV 0 (.ab (.const (.bool false)))])
 (.seq
 (.region [iC 6 6 [(kS [102, 110, 32, 109, 97, 105, 110, 40, 120, 32, 97, 114, 114, 41, 32, 105, 110, 116, 32, 123, 32, 112, 114, 105, 110, 116, 32, 108, 101, 110, 40, 120, 41, 59, 32, 125])],
 iV 5 (.ab (tm 6)),
 iV 7 (.extract (tm 5) 0),
 iV 8 (.extract (tm 5) 1),
 iV 2 (.alloc 25 [(.int .i64 0), (.int .i64 0)]),
 iV 1 (.ab (tm 7)),
 iN (.store 2 (tm 2) (tm 8))])
 (.seq
 (.region [iC 10 6 [(kS [102, 110, 32, 102, 40, 41, 32, 123, 32, 125])],
 iV 9 (.ab (tm 10)),
 iV 11 (.extract (tm 9) 0),
 iV 12 (.extract (tm 9) 1),
 iV 4 (.alloc 25 [(.int .i64 0), (.int .i64 0)]),
 iV 3 (.ab (tm 11)),
 iN (.store 2 (tm 4) (tm 12))])
 (.seq
 (.region [iV 13 (.load (some 2) (tm 2)),
 iV 14 (.build [(.int .i64 0), (.int .i64 0)] []),
 iV 15 (.eq false (.agg [(none, 0, (.aL 1)), (none, 1, (.aL 1))]) (tm 13) (tm 14)),
 iV 16 (.ab (tm 15)),
 iG 17 (.ab (tm 1)) 16 true,
 iH 18 22 [(tm 17)] 16 true,
 iV 19 (.pick (tm 16) (tm 18) (.const (.bool false))),
 iV 20 (.ab (tm 19)),
 iG 21 (.ab (tm 1)) 20 true,
 iG 22 (.ab (tm 1)) 20 true,
 iG 23 (.len (tm 22)) 20 true,
 iG 24 (.bin .sub (tm 23) (kI 1)) 20 true,
 iH 25 23 [(tm 21), (tm 24)] 20 true,
 iG 26 (.eq false (.aL 2) (tm 25) (kS [40, 112, 114, 111, 103, 32, 40, 102, 110, 32, 109, 97, 105, 110, 32, 105, 110, 116, 32, 40, 120, 32, 97, 114, 114, 41, 32, 40, 98, 108, 111, 99, 107, 32, 40, 112, 114, 105, 110, 116, 32, 40, 108, 101, 110, 32, 120, 41, 41, 41, 41, 41])) 20 true,
 iV 27 (.pick (tm 20) (tm 26) (.const (.bool false))),
 iV 28 (.ab (tm 27)),
 iG 29 (.load (some 2) (tm 4)) 28 true,
 iG 30 (.build [(.int .i64 0), (.int .i64 0)] [(0, 1, (kI 8)), (1, 1, (kI 7))]) 28 true,
 iG 31 (.eq false (.agg [(none, 0, (.aL 1)), (none, 1, (.aL 1))]) (tm 29) (tm 30)) 28 true,
 iV 32 (.pick (tm 28) (tm 31) (.const (.bool false))),
 iV 0 (.ab (tm 32))])
 .ret)))),
 [.tmp 0]⟩
theorem ok8 : bW Tryd.prog G Tryd.f8 = some lH := by kernel_rfl
/- balustrade/balustraderef05.Tokens -/
abbrev HJ : Nat := 9
def fh : aE :=
 (.seq
 (.seq
 (.region [iV 14 (.ab (tm 5)),
 iV 15 (.ab (tm 0)),
 iV 16 (.cH (tm 15)),
 iV 17 (.bin .lss (tm 14) (tm 16))])
 (.cond (.tmp 17)
 .skip
 (.exit 0)))
 (.block 1
 (.seq
 (.region [iV 19 (.ab (tm 0)),
 iV 20 (.ab (tm 5)),
 iV 21 (.gh (tm 19) (some (tm 20)) none),
 iV 22 (.ab (tm 5)),
 iC 23 25 [(tm 21), (tm 22)],
 iV 18 (.ab (tm 23)),
 iV 24 (.extract (tm 18) 0),
 iV 25 (.extract (tm 18) 1),
 iV 6 (.alloc 36 [(.int .i64 0), (.str []), (.int .i64 0), (.int .i64 0)]),
 iN (.store 4 (tm 6) (tm 24)),
 iV 7 (.ab (tm 25))])
 (.seq
 (.seq
 (.region [iV 26 (.ab (tm 7)),
 iV 27 (.eq true (.aL 1) (tm 26) (kI 0))])
 (.cond (.tmp 27)
 (.seq
 (.region [iV 28 (.ab (tm 7)),
 iV 29 (.ab (tm 5)),
 iV 30 (.build [(.int .i64 0), (.int .i64 0)] [(0, 1, (tm 28)), (1, 1, (tm 29))]),
 iV 2 (.ab (.const .ae)),
 iN (.store 2 (tm 3) (tm 30))])
 .ret)
 .skip))
 (.seq
 (.region [iV 31 (.ab (tm 4)),
 iV 32 (.load (some 4) (tm 6)),
 iV 33 (.bB 36 4 1 [(.int .i64 0), (.str []), (.int .i64 0), (.int .i64 0)] [(0, (tm 32))]),
 iV 34 (.append 36 4 40 (tm 31) (tm 33)),
 iV 4 (.ab (tm 34))])
 (.seq
 (.region [iV 35 (.ab (tm 5)),
 iV 36 (.aj 1 (tm 6)),
 iV 37 (.load none (tm 36)),
 iV 38 (.cH (tm 37)),
 iV 39 (.bin .add (tm 35) (tm 38)),
 iV 5 (.ab (tm 39))])
 (.region [iV 40 (.ab (tm 5)),
 iV 41 (.ab (tm 0)),
 iV 42 (.ab (tm 5)),
 iV 43 (.gh (tm 41) (some (tm 42)) none),
 iC 44 24 [(tm 43)],
 iV 45 (.bin .add (tm 40) (tm 44)),
 iV 5 (.ab (tm 45))])))))))
def gb : az :=
 ⟨53,
 (.seq
 (.region [iV 2 (.ab (.const .ae)),
 iV 3 (.alloc 25 [(.int .i64 0), (.int .i64 0)])])
 (.seq
 (.seq
 (.region [iV 8 (.ab (tm 0)),
 iV 9 (.cH (tm 8)),
 iV 10 (.bin .gtr (tm 9) (kI 65536))])
 (.cond (.tmp 10)
 (.seq
 (.region [iV 11 (.build [(.int .i64 0), (.int .i64 0)] [(0, 1, (kI 3))]),
 iV 2 (.ab (.const .ae)),
 iN (.store 2 (tm 3) (tm 11))])
 .ret)
 .skip))
 (.seq
 (.region [iV 4 (.ab (.const .ae))])
 (.seq
 (.region [iV 12 (.ab (tm 0)),
 iC 13 24 [(tm 12)],
 iV 5 (.ab (tm 13))])
 (.seq
 (.block 0
 (.loop fh))
 (.seq
 (.region [iV 46 (.ab (tm 4)),
 iV 47 (.ab (tm 0)),
 iV 48 (.cH (tm 47)),
 iV 49 (.build [(.int .i64 0), (.str []), (.int .i64 0), (.int .i64 0)] [(3, 1, (tm 48))]),
 iV 50 (.bB 36 4 1 [(.int .i64 0), (.str []), (.int .i64 0), (.int .i64 0)] [(0, (tm 49))]),
 iV 51 (.append 36 4 40 (tm 46) (tm 50)),
 iV 52 (.build [(.int .i64 0), (.int .i64 0)] []),
 iV 2 (.ab (tm 51)),
 iN (.store 2 (tm 3) (tm 52))])
 .ret)))))),
 [.tmp 2, .cell 3 (some 2)]⟩
theorem ok9 : bW Tryd.prog G Tryd.f9 = some gb := by kernel_rfl
/- balustrade/balustradebase.HasInt -/
abbrev nh : Nat := 10
def fF : aE :=
 (.seq
 (.seq
 (.region [iV 6 (.ab (tm 5)),
 iV 7 (.ab (tm 0)),
 iV 8 (.len (tm 7)),
 iV 9 (.bin .lss (tm 6) (tm 8))])
 (.cond (.tmp 9)
 .skip
 (.exit 0)))
 (.seq
 (.block 1
 (.seq
 (.region [iV 12 (.ab (tm 0)),
 iV 13 (.ab (tm 5)),
 iV 14 (.ee 1 (tm 12) (tm 13)),
 iV 15 (.load none (tm 14)),
 iV 16 (.ab (tm 1)),
 iV 17 (.eq false (.aL 1) (tm 15) (tm 16))])
 (.cond (.tmp 17)
 (.seq
 (.region [iV 4 (.ab (.const (.bool true)))])
 .ret)
 .skip)))
 (.region [iV 10 (.ab (tm 5)),
 iV 11 (.bin .add (tm 10) (kI 1)),
 iV 5 (.ab (tm 11))])))
def gr : az :=
 ⟨18,
 (.seq
 (.region [iV 4 (.ab (.const (.bool false)))])
 (.seq
 (.seq
 (.region [iV 5 (.ab (kI 0))])
 (.block 0
 (.loop fF)))
 (.seq
 (.region [iV 4 (.ab (.const (.bool false)))])
 .ret))),
 [.tmp 4]⟩
theorem aaO : bW Tryd.prog G Tryd.f10 = some gr := by kernel_rfl
/- balustrade/lex.Tokens -/
abbrev HL : Nat := 12
def eK : aE :=
 (.seq
 (.seq
 (.region [iV 13 (.ab (tm 4)),
 iV 14 (.cA (tm 13)),
 iV 15 (.aj 1 (tm 14)),
 iV 16 (.load none (tm 15)),
 iV 17 (.ab (tm 0)),
 iV 18 (.cH (tm 17)),
 iV 19 (.bin .lss (tm 16) (tm 18))])
 (.cond (.tmp 19)
 .skip
 (.exit 0)))
 (.block 1
 (.seq
 (.region [iV 20 (.ab (tm 4)),
 iC 21 27 [(tm 20)],
 iV 5 (.ab (tm 21))])
 (.seq
 (.region [iV 22 (.ab (tm 5)),
 iV 23 (.eq true (.aL 1) (tm 22) (kI 0))])
 (.cond (.tmp 23)
 (.seq
 (.draw [iV 24 (.ab (tm 5)),
 iV 25 (.ab (tm 4)),
 iV 26 (.cA (tm 25)),
 iV 27 (.aj 1 (tm 26)),
 iV 28 (.load none (tm 27)),
 iV 29 (.build [(.int .i64 0), (.int .i64 0)] [(0, 1, (tm 24)), (1, 1, (tm 28))]),
 iV 2 (.ab (.const .ae)),
 iN (.store 2 (tm 3) (tm 29))] [])
 .ret)
 .skip)))))
def gd : az :=
 ⟨37,
 (.seq
 (.region [iV 2 (.ab (.const .ae)),
 iV 3 (.alloc 25 [(.int .i64 0), (.int .i64 0)])])
 (.seq
 (.seq
 (.region [iV 6 (.ab (tm 0)),
 iV 7 (.cH (tm 6)),
 iV 8 (.bin .gtr (tm 7) (kI 65536))])
 (.cond (.tmp 8)
 (.seq
 (.region [iV 9 (.build [(.int .i64 0), (.int .i64 0)] [(0, 1, (kI 3))]),
 iV 2 (.ab (.const .ae)),
 iN (.store 2 (tm 3) (tm 9))])
 .ret)
 .skip))
 (.seq
 (.region [iV 10 (.ab (tm 0)),
 iV 11 (.build [(.str []), (.int .i64 0), .ae] [(0, 1, (tm 10))]),
 iV 12 (.box 59 (tm 11)),
 iV 4 (.ab (tm 12))])
 (.seq
 (.block 0
 (.loop eK))
 (.seq
 (.region [iV 30 (.ab (tm 4)),
 iC 31 28 [(tm 30), (kI 0), (kI 0), (kI 0)]])
 (.seq
 (.region [iV 32 (.ab (tm 4)),
 iV 33 (.cA (tm 32)),
 iV 34 (.aj 2 (tm 33)),
 iV 35 (.load none (tm 34)),
 iV 36 (.build [(.int .i64 0), (.int .i64 0)] []),
 iV 2 (.ab (tm 35)),
 iN (.store 2 (tm 3) (tm 36))])
 .ret)))))),
 [.tmp 2, .cell 3 (some 2)]⟩
theorem aaN : bW Tryd.prog G Tryd.f12 = some gd := by kernel_rfl
/- balustrade/expr.New -/
abbrev Lx : Nat := 13
def ke : az :=
 ⟨6,
 (.seq
 (.region [iV 2 (.ab (.const .bN))])
 (.seq
 (.region [iV 3 (.ab (tm 0)),
 iV 4 (.build [.ae, (.int .i64 0), (.int .i64 0), .ae, .ae, (.int .i64 0), (.int .i64 0)] [(0, 1, (tm 3))]),
 iV 5 (.box 63 (tm 4)),
 iV 2 (.ab (tm 5))])
 .ret)),
 [.tmp 2]⟩
theorem aaM : bW Tryd.prog G Tryd.f13 = some ke := by kernel_rfl
/- (balustrade/parse.reader).fine -/
abbrev oi : Nat := 14
def bG : az :=
 ⟨8,
 (.seq
 (.region [iV 1 (.box 45 (tm 0)),
 iV 2 (.ab (.const (.bool false)))])
 (.seq
 (.region [iV 3 (.aj 0 (tm 1)),
 iV 4 (.load none (tm 3)),
 iC 5 20 [(tm 4)],
 iV 6 (.A5 none 0 (tm 5)),
 iV 7 (.eq false (.aL 1) (tm 6) (kI 0)),
 iV 2 (.ab (tm 7))])
 .ret)),
 [.tmp 2]⟩
theorem aaL : bW Tryd.prog G Tryd.f14 = some bG := by kernel_rfl
/- (*balustrade/expr.Reader).Token -/
abbrev kH : Nat := 15
def bu : az :=
 ⟨27,
 (.seq
 (.region [iV 2 (.alloc 36 [(.int .i64 0), (.str []), (.int .i64 0), (.int .i64 0)])])
 (.seq
 (.seq
 (.region [iV 3 (.ab (tm 0)),
 iV 4 (.cA (tm 3)),
 iV 5 (.aj 0 (tm 4)),
 iV 6 (.load none (tm 5)),
 iV 7 (.len (tm 6)),
 iV 8 (.eq false (.aL 1) (tm 7) (kI 0))])
 (.cond (.tmp 8)
 (.seq
 (.region [iV 9 (.build [(.int .i64 0), (.str []), (.int .i64 0), (.int .i64 0)] []),
 iN (.store 4 (tm 2) (tm 9))])
 .ret)
 .skip))
 (.seq
 (.draw [iV 10 (.ab (tm 0)),
 iV 11 (.cA (tm 10)),
 iV 12 (.aj 0 (tm 11)),
 iV 13 (.load none (tm 12)),
 iV 14 (.ab (tm 0)),
 iV 15 (.cA (tm 14)),
 iV 16 (.aj 1 (tm 15)),
 iV 17 (.load none (tm 16)),
 iV 18 (.ab (tm 0)),
 iV 19 (.cA (tm 18)),
 iV 20 (.aj 0 (tm 19)),
 iV 21 (.load none (tm 20)),
 iV 22 (.len (tm 21)),
 iV 23 (.bin .sub (tm 22) (kI 1)),
 iV 24 (.min [(tm 17), (tm 23)]),
 iV 25 (.ee 4 (tm 13) (tm 24)),
 iV 26 (.load (some 4) (tm 25)),
 iN (.store 4 (tm 2) (tm 26))] [])
 .ret))),
 [.cell 2 (some 4)]⟩
theorem aaK : bW Tryd.prog G Tryd.f15 = some bu := by kernel_rfl
/- (*balustrade/expr.Reader).Is -/
abbrev mQ : Nat := 16
def cC : az :=
 ⟨21,
 (.seq
 (.region [iV 4 (.ab (.const (.bool false)))])
 (.seq
 (.region [iV 6 (.ab (tm 0)),
 iC 7 15 [(tm 6)],
 iV 5 (.alloc 36 [(.int .i64 0), (.str []), (.int .i64 0), (.int .i64 0)]),
 iN (.store 4 (tm 5) (tm 7))])
 (.seq
 (.region [iV 8 (.ab (tm 0)),
 iC 9 29 [(tm 8)],
 iV 10 (.ab (tm 9)),
 iG 11 (.aj 0 (tm 5)) 10 true,
 iG 12 (.load none (tm 11)) 10 true,
 iG 13 (.bin .geq (tm 12) (kI 3)) 10 true,
 iV 14 (.pick (tm 10) (tm 13) (.const (.bool false))),
 iV 15 (.ab (tm 14)),
 iG 16 (.aj 1 (tm 5)) 15 true,
 iG 17 (.load none (tm 16)) 15 true,
 iG 18 (.ab (tm 1)) 15 true,
 iG 19 (.eq false (.aL 2) (tm 17) (tm 18)) 15 true,
 iV 20 (.pick (tm 15) (tm 19) (.const (.bool false))),
 iV 4 (.ab (tm 20))])
 .ret))),
 [.tmp 4]⟩
theorem aaJ : bW Tryd.prog G Tryd.f16 = some cC := by kernel_rfl
/- (*balustrade/expr.Reader).Fail -/
abbrev ed : Nat := 17
def dB : az :=
 ⟨14,
 (.seq
 (.region [iV 6 (.ab (tm 0)),
 iC 7 29 [(tm 6)]])
 (.cond (.tmp 7)
 (.region [iV 8 (.ab (tm 0)),
 iV 9 (.ab (tm 1)),
 iV 10 (.ab (tm 2)),
 iV 11 (.build [(.int .i64 0), (.int .i64 0)] [(0, 1, (tm 9)), (1, 1, (tm 10))]),
 iV 12 (.cA (tm 8)),
 iV 13 (.aj 5 (tm 12)),
 iN (.store 2 (tm 13) (tm 11))])
 .skip)),
 []⟩
theorem aaI : bW Tryd.prog G Tryd.f17 = some dB := by kernel_rfl
/- (balustrade/parse.reader).function -/
abbrev fO : Nat := 18
def cx : az :=
 ⟨34,
 (.seq
 (.region [iV 1 (.box 45 (tm 0)),
 iV 2 (.ab (kI 0))])
 (.seq
 (.region [iV 7 (.aj 0 (tm 1)),
 iV 8 (.load none (tm 7)),
 iC 9 30 [(tm 8), (kS [102, 110])]])
 (.seq
 (.region [iV 10 (.aj 0 (tm 1)),
 iV 11 (.load none (tm 10)),
 iC 12 15 [(tm 11)],
 iV 13 (.A5 none 3 (tm 12)),
 iV 3 (.ab (tm 13))])
 (.seq
 (.region [iV 14 (.aj 0 (tm 1)),
 iV 15 (.load none (tm 14)),
 iC 16 31 [(tm 15)],
 iV 4 (.ab (tm 16))])
 (.seq
 (.region [iV 17 (.load (some 1) (tm 1)),
 iC 18 32 [(tm 17)],
 iV 5 (.ab (tm 18))])
 (.seq
 (.region [iV 19 (.load (some 1) (tm 1)),
 iC 20 33 [(tm 19)],
 iV 6 (.ab (tm 20))])
 (.seq
 (.region [iV 21 (.ab (tm 5)),
 iV 22 (.load (some 1) (tm 1)),
 iC 23 34 [(tm 22)],
 iV 24 (.bB 3 1 1 [(.int .i64 0)] [(0, (tm 23))]),
 iV 25 (.append 3 1 8 (tm 21) (tm 24)),
 iV 5 (.ab (tm 25))])
 (.seq
 (.region [iV 26 (.aj 0 (tm 1)),
 iV 27 (.load none (tm 26)),
 iV 28 (.ab (tm 4)),
 iV 29 (.ab (tm 6)),
 iV 30 (.ab (tm 5)),
 iV 31 (.ab (tm 3)),
 iV 32 (.build [(.int .i64 0), .ae, (.int .i64 0), (.str []), (.int .i64 0)] [(0, 1, (kI 25)), (3, 1, (tm 28)), (2, 1, (tm 29)), (1, 1, (tm 30)), (4, 1, (tm 31))]),
 iC 33 19 [(tm 27), (tm 32)],
 iV 2 (.ab (tm 33))])
 .ret)))))))),
 [.tmp 2]⟩
theorem aaH : bW Tryd.prog G Tryd.f18 = some cx := by kernel_rfl
/- (*balustrade/expr.Reader).Put -/
abbrev aD : Nat := 19
def cf : aE :=
 (.seq
 (.region [iV 12 (.bin .lss (tm 11) (tm 10))])
 (.seq
 (.cond (.tmp 12)
 .skip
 (.exit 0))
 (.seq
 (.block 1
 (.seq
 (.region [iV 13 (.ee 1 (tm 9) (tm 11)),
 iV 14 (.load none (tm 13)),
 iV 7 (.ab (tm 14))])
 (.seq
 (.region [iV 15 (.ab (tm 7)),
 iV 16 (.bin .geq (tm 15) (kI 0)),
 iV 17 (.ab (tm 16)),
 iG 18 (.ab (tm 7)) 17 true,
 iG 19 (.ab (tm 0)) 17 true,
 iG 20 (.cA (tm 19)) 17 true,
 iG 21 (.aj 4 (tm 20)) 17 true,
 iG 22 (.load none (tm 21)) 17 true,
 iG 23 (.len (tm 22)) 17 true,
 iG 24 (.bin .lss (tm 18) (tm 23)) 17 true,
 iV 25 (.pick (tm 17) (tm 24) (.const (.bool false)))])
 (.cond (.tmp 25)
 (.region [iV 26 (.ab (tm 5)),
 iV 27 (.ab (tm 0)),
 iV 28 (.cA (tm 27)),
 iV 29 (.aj 4 (tm 28)),
 iV 30 (.load none (tm 29)),
 iV 31 (.ab (tm 7)),
 iV 32 (.ee 1 (tm 30) (tm 31)),
 iV 33 (.load none (tm 32)),
 iV 34 (.bin .add (tm 33) (kI 1)),
 iV 35 (.max [(tm 26), (tm 34)]),
 iV 5 (.ab (tm 35))])
 .skip))))
 (.region [iV 36 (.bin .add (tm 11) (kI 1)),
 iV 11 (.ab (tm 36))]))))
def eI : az :=
 ⟨72,
 (.seq
 (.region [iV 3 (.box 39 (tm 1)),
 iV 4 (.ab (kI 0))])
 (.seq
 (.region [iV 5 (.ab (kI 1))])
 (.seq
 (.seq
 (.region [iV 8 (.aj 1 (tm 3)),
 iV 9 (.load none (tm 8)),
 iV 10 (.len (tm 9)),
 iV 11 (.ab (kI 0))])
 (.block 0
 (.loop cf)))
 (.seq
 (.seq
 (.region [iV 37 (.ab (tm 5)),
 iV 38 (.bin .gtr (tm 37) (kI 200))])
 (.cond (.tmp 38)
 (.region [iV 39 (.ab (tm 0)),
 iV 40 (.aj 4 (tm 3)),
 iV 41 (.load none (tm 40)),
 iC 42 17 [(tm 39), (kI 4), (tm 41)]])
 .skip))
 (.seq
 (.seq
 (.region [iV 43 (.ab (tm 0)),
 iC 44 29 [(tm 43)],
 iV 45 (.un .not (tm 44))])
 (.cond (.tmp 45)
 (.seq
 (.region [iV 4 (.ab (kI (-1)))])
 .ret)
 .skip))
 (.seq
 (.draw [iV 46 (.ab (tm 0)),
 iV 47 (.ab (tm 0)),
 iV 48 (.ab (tm 0)),
 iV 49 (.cA (tm 48)),
 iV 50 (.aj 3 (tm 49)),
 iV 51 (.load none (tm 50)),
 iV 52 (.load (some 5) (tm 3)),
 iV 53 (.bB 39 5 1 [(.int .i64 0), .ae, (.int .i64 0), (.str []), (.int .i64 0)] [(0, (tm 52))]),
 iV 54 (.append 39 5 64 (tm 51) (tm 53)),
 iV 55 (.ab (tm 0)),
 iV 56 (.cA (tm 55)),
 iV 57 (.aj 4 (tm 56)),
 iV 58 (.load none (tm 57)),
 iV 59 (.ab (tm 5)),
 iV 60 (.bB 3 1 1 [(.int .i64 0)] [(0, (tm 59))]),
 iV 61 (.append 3 1 8 (tm 58) (tm 60)),
 iV 62 (.cA (tm 46)),
 iV 63 (.aj 3 (tm 62)),
 iN (.store 1 (tm 63) (tm 54)),
 iV 64 (.cA (tm 47)),
 iV 65 (.aj 4 (tm 64)),
 iN (.store 1 (tm 65) (tm 61))] [(12, 8)])
 (.seq
 (.region [iV 66 (.ab (tm 0)),
 iV 67 (.cA (tm 66)),
 iV 68 (.aj 3 (tm 67)),
 iV 69 (.load none (tm 68)),
 iV 70 (.len (tm 69)),
 iV 71 (.bin .sub (tm 70) (kI 1)),
 iV 4 (.ab (tm 71))])
 .ret))))))),
 [.tmp 4]⟩
theorem aaG : bW Tryd.prog G Tryd.f19 = some eI := by kernel_rfl
/- (*balustrade/expr.Reader).Fault -/
abbrev oj : Nat := 20
def bz : az :=
 ⟨7,
 (.seq
 (.region [iV 2 (.alloc 25 [(.int .i64 0), (.int .i64 0)])])
 (.seq
 (.region [iV 3 (.ab (tm 0)),
 iV 4 (.cA (tm 3)),
 iV 5 (.aj 5 (tm 4)),
 iV 6 (.load (some 2) (tm 5)),
 iN (.store 2 (tm 2) (tm 6))])
 .ret)),
 [.cell 2 (some 2)]⟩
theorem aaF : bW Tryd.prog G Tryd.f20 = some bz := by kernel_rfl
/- (*balustrade/expr.Reader).Tree -/
abbrev ld : Nat := 21
def ep : az :=
 ⟨8,
 (.seq
 (.region [iV 2 (.ab (.const .ae))])
 (.seq
 (.region [iV 3 (.ab (tm 0)),
 iV 4 (.cA (tm 3)),
 iV 5 (.aj 3 (tm 4)),
 iV 6 (.load none (tm 5)),
 iC 7 35 [(tm 6)],
 iV 2 (.ab (tm 7))])
 .ret)),
 [.tmp 2]⟩
theorem aaE : bW Tryd.prog G Tryd.f21 = some ep := by kernel_rfl
/- balustrade/balustraderef06.Right -/
abbrev Jq : Nat := 22
def gI : aE :=
 (.seq
 (.seq
 (.region [iV 14 (.ab (tm 5)),
 iV 15 (.ab (tm 0)),
 iV 16 (.ab (tm 4)),
 iV 17 (.ee 5 (tm 15) (tm 16)),
 iV 18 (.aj 1 (tm 17)),
 iV 19 (.load none (tm 18)),
 iV 20 (.len (tm 19)),
 iV 21 (.bin .lss (tm 14) (tm 20))])
 (.cond (.tmp 21)
 .skip
 (.exit 2)))
 (.seq
 (.block 3
 (.seq
 (.region [iV 24 (.ab (tm 0)),
 iV 25 (.ab (tm 4)),
 iV 26 (.ee 5 (tm 24) (tm 25)),
 iV 27 (.aj 1 (tm 26)),
 iV 28 (.load none (tm 27)),
 iV 29 (.ab (tm 5)),
 iV 30 (.ee 1 (tm 28) (tm 29)),
 iV 31 (.load none (tm 30)),
 iV 6 (.ab (tm 31))])
 (.seq
 (.seq
 (.region [iV 32 (.ab (tm 6)),
 iV 33 (.bin .lss (tm 32) (kI 0)),
 iV 34 (.ab (tm 33)),
 iG 35 (.ab (tm 6)) 34 false,
 iG 36 (.ab (tm 4)) 34 false,
 iG 37 (.bin .geq (tm 35) (tm 36)) 34 false,
 iV 38 (.pick (tm 34) (.const (.bool true)) (tm 37)),
 iV 39 (.ab (tm 38)),
 iG 40 (.ab (tm 3)) 39 false,
 iG 41 (.ab (tm 6)) 39 false,
 iH 42 10 [(tm 40), (tm 41)] 39 false,
 iV 43 (.pick (tm 39) (.const (.bool true)) (tm 42))])
 (.cond (.tmp 43)
 (.seq
 (.region [iV 2 (.ab (.const (.bool false)))])
 .ret)
 .skip))
 (.region [iV 44 (.ab (tm 3)),
 iV 45 (.ab (tm 6)),
 iV 46 (.bB 3 1 1 [(.int .i64 0)] [(0, (tm 45))]),
 iV 47 (.append 3 1 8 (tm 44) (tm 46)),
 iV 3 (.ab (tm 47))]))))
 (.region [iV 22 (.ab (tm 5)),
 iV 23 (.bin .add (tm 22) (kI 1)),
 iV 5 (.ab (tm 23))])))
def gH : aE :=
 (.seq
 (.seq
 (.region [iV 8 (.ab (tm 4)),
 iV 9 (.ab (tm 0)),
 iV 10 (.len (tm 9)),
 iV 11 (.bin .lss (tm 8) (tm 10))])
 (.cond (.tmp 11)
 .skip
 (.exit 0)))
 (.seq
 (.block 1
 (.seq
 (.seq
 (.region [iV 5 (.ab (kI 0))])
 (.block 2
 (.loop gI)))
 (.seq
 (.region [iV 48 (.ab (tm 0)),
 iV 49 (.ab (tm 4)),
 iV 50 (.ee 5 (tm 48) (tm 49)),
 iV 51 (.load (some 5) (tm 50)),
 iC 52 36 [(tm 51)],
 iV 53 (.un .not (tm 52)),
 iV 54 (.ab (tm 53)),
 iG 55 (.ab (tm 0)) 54 false,
 iG 56 (.ab (tm 0)) 54 false,
 iG 57 (.ab (tm 4)) 54 false,
 iG 58 (.ee 5 (tm 56) (tm 57)) 54 false,
 iG 59 (.load (some 5) (tm 58)) 54 false,
 iH 60 37 [(tm 55), (tm 59)] 54 false,
 iG 61 (.un .not (tm 60)) 54 false,
 iV 62 (.pick (tm 54) (.const (.bool true)) (tm 61))])
 (.cond (.tmp 62)
 (.seq
 (.region [iV 2 (.ab (.const (.bool false)))])
 .ret)
 .skip))))
 (.region [iV 12 (.ab (tm 4)),
 iV 13 (.bin .add (tm 12) (kI 1)),
 iV 4 (.ab (tm 13))])))
def jj : az :=
 ⟨82,
 (.seq
 (.region [iV 2 (.ab (.const (.bool false)))])
 (.seq
 (.region [iV 7 (.bB 3 1 0 [(.int .i64 0)] []),
 iV 3 (.ab (tm 7))])
 (.seq
 (.seq
 (.region [iV 4 (.ab (kI 0))])
 (.block 0
 (.loop gH)))
 (.seq
 (.region [iV 63 (.ab (tm 0)),
 iV 64 (.len (tm 63)),
 iV 65 (.bin .gtr (tm 64) (kI 0)),
 iV 66 (.ab (tm 65)),
 iG 67 (.ab (tm 3)) 66 true,
 iG 68 (.len (tm 67)) 66 true,
 iG 69 (.ab (tm 0)) 66 true,
 iG 70 (.len (tm 69)) 66 true,
 iG 71 (.bin .sub (tm 70) (kI 1)) 66 true,
 iG 72 (.eq false (.aL 1) (tm 68) (tm 71)) 66 true,
 iV 73 (.pick (tm 66) (tm 72) (.const (.bool false))),
 iV 74 (.ab (tm 73)),
 iG 75 (.ab (tm 0)) 74 true,
 iG 76 (.ab (tm 0)) 74 true,
 iG 77 (.len (tm 76)) 74 true,
 iG 78 (.bin .sub (tm 77) (kI 1)) 74 true,
 iH 79 38 [(tm 75), (tm 78)] 74 true,
 iG 80 (.bin .leq (tm 79) (kI 200)) 74 true,
 iV 81 (.pick (tm 74) (tm 80) (.const (.bool false))),
 iV 2 (.ab (tm 81))])
 .ret)))),
 [.tmp 2]⟩
theorem aaD : bW Tryd.prog G Tryd.f22 = some jj := by kernel_rfl
/- balustrade/balustraderef06.Tell -/
abbrev Vc : Nat := 23
def Gb : aE :=
 (.seq
 (.seq
 (.region [iV 66 (.ab (tm 7)),
 iV 67 (.aj 1 (tm 5)),
 iV 68 (.load none (tm 67)),
 iV 69 (.len (tm 68)),
 iV 70 (.bin .lss (tm 66) (tm 69))])
 (.cond (.tmp 70)
 .skip
 (.exit 0)))
 (.seq
 (.block 1
 (.region [iV 73 (.ab (tm 6)),
 iV 74 (.bin .add (tm 73) (kS [32])),
 iV 75 (.ab (tm 0)),
 iV 76 (.aj 1 (tm 5)),
 iV 77 (.load none (tm 76)),
 iV 78 (.ab (tm 7)),
 iV 79 (.ee 1 (tm 77) (tm 78)),
 iV 80 (.load none (tm 79)),
 iC 81 23 [(tm 75), (tm 80)],
 iV 82 (.bin .add (tm 74) (tm 81)),
 iV 6 (.ab (tm 82))]))
 (.region [iV 71 (.ab (tm 7)),
 iV 72 (.bin .add (tm 71) (kI 1)),
 iV 7 (.ab (tm 72))])))
def mZ : az :=
 ⟨86,
 (.seq
 (.region [iV 4 (.ab (kS []))])
 (.seq
 (.region [iV 8 (.ab (tm 0)),
 iV 9 (.ab (tm 1)),
 iV 10 (.ee 5 (tm 8) (tm 9)),
 iV 11 (.load (some 5) (tm 10)),
 iV 5 (.alloc 39 [(.int .i64 0), .ae, (.int .i64 0), (.str []), (.int .i64 0)]),
 iN (.store 5 (tm 5) (tm 11))])
 (.seq
 (.seq
 (.region [iV 12 (.aj 0 (tm 5)),
 iV 13 (.load none (tm 12)),
 iV 14 (.eq false (.aL 1) (tm 13) (kI 1))])
 (.cond (.tmp 14)
 (.seq
 (.region [iV 15 (.aj 2 (tm 5)),
 iV 16 (.load none (tm 15)),
 iC 17 39 [(tm 16)],
 iV 4 (.ab (tm 17))])
 .ret)
 .skip))
 (.seq
 (.seq
 (.region [iV 18 (.aj 0 (tm 5)),
 iV 19 (.load none (tm 18)),
 iV 20 (.eq false (.aL 1) (tm 19) (kI 2)),
 iV 21 (.ab (tm 20)),
 iG 22 (.aj 2 (tm 5)) 21 true,
 iG 23 (.load none (tm 22)) 21 true,
 iG 24 (.eq false (.aL 1) (tm 23) (kI 1)) 21 true,
 iV 25 (.pick (tm 21) (tm 24) (.const (.bool false)))])
 (.cond (.tmp 25)
 (.seq
 (.region [iV 4 (.ab (kS [116, 114, 117, 101]))])
 .ret)
 .skip))
 (.seq
 (.seq
 (.region [iV 26 (.aj 0 (tm 5)),
 iV 27 (.load none (tm 26)),
 iV 28 (.eq false (.aL 1) (tm 27) (kI 2))])
 (.cond (.tmp 28)
 (.seq
 (.region [iV 4 (.ab (kS [102, 97, 108, 115, 101]))])
 .ret)
 .skip))
 (.seq
 (.seq
 (.region [iV 29 (.aj 0 (tm 5)),
 iV 30 (.load none (tm 29)),
 iV 31 (.bin .leq (tm 30) (kI 4))])
 (.cond (.tmp 31)
 (.seq
 (.draw [iV 32 (.load (some 5) (tm 5)),
 iC 33 40 [(tm 32)],
 iV 34 (.aj 3 (tm 5)),
 iV 35 (.load none (tm 34)),
 iV 36 (.bin .add (tm 33) (tm 35)),
 iV 4 (.ab (tm 36))] [(3, 1)])
 .ret)
 .skip))
 (.seq
 (.region [iV 37 (.load (some 5) (tm 5)),
 iC 38 40 [(tm 37)],
 iV 6 (.ab (tm 38))])
 (.seq
 (.seq
 (.region [iV 39 (.aj 3 (tm 5)),
 iV 40 (.load none (tm 39)),
 iV 41 (.eq true (.aL 2) (tm 40) (kS [])),
 iV 42 (.ab (tm 41)),
 iG 43 (.ab (tm 6)) 42 true,
 iG 44 (.eq true (.aL 2) (tm 43) (kS [])) 42 true,
 iV 45 (.pick (tm 42) (tm 44) (.const (.bool false)))])
 (.cond (.tmp 45)
 (.region [iV 46 (.ab (tm 6)),
 iV 47 (.bin .add (tm 46) (kS [32])),
 iV 6 (.ab (tm 47))])
 .skip))
 (.seq
 (.region [iV 48 (.ab (tm 6)),
 iV 49 (.aj 3 (tm 5)),
 iV 50 (.load none (tm 49)),
 iV 51 (.bin .add (tm 48) (tm 50)),
 iV 6 (.ab (tm 51))])
 (.seq
 (.seq
 (.region [iV 52 (.aj 0 (tm 5)),
 iV 53 (.load none (tm 52)),
 iV 54 (.eq false (.aL 1) (tm 53) (kI 24)),
 iV 55 (.ab (tm 54)),
 iG 56 (.aj 0 (tm 5)) 55 false,
 iG 57 (.load none (tm 56)) 55 false,
 iG 58 (.eq false (.aL 1) (tm 57) (kI 25)) 55 false,
 iV 59 (.pick (tm 55) (.const (.bool true)) (tm 58))])
 (.cond (.tmp 59)
 (.region [iV 60 (.ab (tm 6)),
 iV 61 (.bin .add (tm 60) (kS [32])),
 iV 62 (.aj 2 (tm 5)),
 iV 63 (.load none (tm 62)),
 iC 64 41 [(tm 63)],
 iV 65 (.bin .add (tm 61) (tm 64)),
 iV 6 (.ab (tm 65))])
 .skip))
 (.seq
 (.seq
 (.region [iV 7 (.ab (kI 0))])
 (.block 0
 (.loop Gb)))
 (.seq
 (.region [iV 83 (.ab (tm 6)),
 iV 84 (.bin .add (kS [40]) (tm 83)),
 iV 85 (.bin .add (tm 84) (kS [41])),
 iV 4 (.ab (tm 85))])
 .ret)))))))))))),
 [.tmp 4]⟩
theorem aaC : bW Tryd.prog G Tryd.f23 = some mZ := by kernel_rfl
end
section
/- balustrade/balustraderef05.Skip -/
abbrev Lu : Nat := 24
def iA : aE :=
 (.seq
 (.seq
 (.region [iV 5 (.ab (tm 4)),
 iV 6 (.ab (tm 0)),
 iV 7 (.cH (tm 6)),
 iV 8 (.bin .lss (tm 5) (tm 7))])
 (.cond (.tmp 8)
 .skip
 (.exit 0)))
 (.seq
 (.block 1
 (.seq
 (.seq
 (.region [iV 11 (.ab (tm 0)),
 iV 12 (.ab (tm 4)),
 iV 13 (.eD (tm 11) (tm 12)),
 iV 14 (.eq false (.aL 1) (tm 13) (.const (.int .u8 35)))])
 (.cond (.tmp 14)
 (.region [iV 3 (.ab (.const (.bool true)))])
 .skip))
 (.seq
 (.seq
 (.region [iV 15 (.ab (tm 0)),
 iV 16 (.ab (tm 4)),
 iV 17 (.eD (tm 15) (tm 16)),
 iV 18 (.eq false (.aL 1) (tm 17) (.const (.int .u8 10)))])
 (.cond (.tmp 18)
 (.region [iV 3 (.ab (.const (.bool false)))])
 .skip))
 (.seq
 (.region [iV 19 (.ab (tm 3)),
 iV 20 (.un .not (tm 19)),
 iV 21 (.ab (tm 20)),
 iG 22 (.ab (tm 0)) 21 true,
 iG 23 (.ab (tm 4)) 21 true,
 iG 24 (.eD (tm 22) (tm 23)) 21 true,
 iH 25 42 [(tm 24)] 21 true,
 iG 26 (.un .not (tm 25)) 21 true,
 iV 27 (.pick (tm 21) (tm 26) (.const (.bool false)))])
 (.cond (.tmp 27)
 (.seq
 (.region [iV 28 (.ab (tm 4)),
 iV 2 (.ab (tm 28))])
 .ret)
 .skip)))))
 (.region [iV 9 (.ab (tm 4)),
 iV 10 (.bin .add (tm 9) (kI 1)),
 iV 4 (.ab (tm 10))])))
def j9 : az :=
 ⟨31,
 (.seq
 (.region [iV 2 (.ab (kI 0))])
 (.seq
 (.region [iV 3 (.ab (.const (.bool false)))])
 (.seq
 (.seq
 (.region [iV 4 (.ab (kI 0))])
 (.block 0
 (.loop iA)))
 (.seq
 (.region [iV 29 (.ab (tm 0)),
 iV 30 (.cH (tm 29)),
 iV 2 (.ab (tm 30))])
 .ret)))),
 [.tmp 2]⟩
theorem aaB : bW Tryd.prog G Tryd.f24 = some j9 := by kernel_rfl
/- balustrade/balustraderef05.one -/
abbrev Gx : Nat := 25
def jF : aE :=
 (.seq
 (.seq
 (.region [iV 12 (.ab (tm 6)),
 iV 13 (.ab (tm 0)),
 iV 14 (.cH (tm 13)),
 iV 15 (.bin .lss (tm 12) (tm 14)),
 iV 16 (.ab (tm 15)),
 iG 17 (.ab (tm 0)) 16 true,
 iG 18 (.ab (tm 6)) 16 true,
 iG 19 (.eD (tm 17) (tm 18)) 16 true,
 iH 20 43 [(tm 19)] 16 true,
 iV 21 (.pick (tm 16) (tm 20) (.const (.bool false)))])
 (.cond (.tmp 21)
 .skip
 (.exit 0)))
 (.block 1
 (.region [iV 22 (.ab (tm 6)),
 iV 23 (.bin .add (tm 22) (kI 1)),
 iV 6 (.ab (tm 23))])))
def jE : aE :=
 (.seq
 (.seq
 (.region [iV 40 (.ab (tm 6)),
 iV 41 (.ab (tm 0)),
 iV 42 (.cH (tm 41)),
 iV 43 (.bin .lss (tm 40) (tm 42)),
 iV 44 (.ab (tm 43)),
 iG 45 (.ab (tm 0)) 44 true,
 iG 46 (.ab (tm 6)) 44 true,
 iG 47 (.eD (tm 45) (tm 46)) 44 true,
 iH 48 45 [(tm 47)] 44 true,
 iG 49 (.ab (tm 48)) 44 true,
 iG 50 (.ab (tm 6)) 49 false,
 iG 51 (.bin .gtr (tm 50) (kI 0)) 49 false,
 iG 52 (.ab (tm 51)) 49 false,
 iG 53 (.ab (tm 0)) 52 true,
 iG 54 (.ab (tm 6)) 52 true,
 iG 55 (.eD (tm 53) (tm 54)) 52 true,
 iH 56 43 [(tm 55)] 52 true,
 iG 57 (.pick (tm 52) (tm 56) (.const (.bool false))) 49 false,
 iG 58 (.pick (tm 49) (.const (.bool true)) (tm 57)) 44 true,
 iV 59 (.pick (tm 44) (tm 58) (.const (.bool false)))])
 (.cond (.tmp 59)
 .skip
 (.exit 2)))
 (.block 3
 (.region [iV 60 (.ab (tm 6)),
 iV 61 (.bin .add (tm 60) (kI 1)),
 iV 6 (.ab (tm 61))])))
def ko : az :=
 ⟨95,
 (.seq
 (.region [iV 4 (.alloc 36 [(.int .i64 0), (.str []), (.int .i64 0), (.int .i64 0)]),
 iV 5 (.ab (kI 0))])
 (.seq
 (.region [iV 6 (.ab (kI 0))])
 (.seq
 (.seq
 (.region [iV 9 (.ab (tm 0)),
 iV 10 (.eD (tm 9) (kI 0)),
 iC 11 43 [(tm 10)]])
 (.cond (.tmp 11)
 (.seq
 (.block 0
 (.loop jF))
 (.seq
 (.region [iV 25 (.ab (tm 0)),
 iV 26 (.ab (tm 6)),
 iV 27 (.gh (tm 25) none (some (tm 26))),
 iC 28 44 [(tm 27)],
 iV 24 (.ab (tm 28)),
 iV 29 (.extract (tm 24) 0),
 iV 30 (.extract (tm 24) 1),
 iV 7 (.ab (tm 29)),
 iV 8 (.ab (tm 30))])
 (.seq
 (.seq
 (.region [iV 31 (.ab (tm 8)),
 iV 32 (.un .not (tm 31))])
 (.cond (.tmp 32)
 (.seq
 (.region [iV 33 (.build [(.int .i64 0), (.str []), (.int .i64 0), (.int .i64 0)] []),
 iN (.store 4 (tm 4) (tm 33)),
 iV 5 (.ab (kI 7))])
 .ret)
 .skip))
 (.seq
 (.region [iV 34 (.ab (tm 0)),
 iV 35 (.ab (tm 6)),
 iV 36 (.gh (tm 34) none (some (tm 35))),
 iV 37 (.ab (tm 7)),
 iV 38 (.ab (tm 1)),
 iV 39 (.build [(.int .i64 0), (.str []), (.int .i64 0), (.int .i64 0)] [(0, 1, (kI 2)), (1, 1, (tm 36)), (2, 1, (tm 37)), (3, 1, (tm 38))]),
 iN (.store 4 (tm 4) (tm 39)),
 iV 5 (.ab (kI 0))])
 .ret))))
 .skip))
 (.seq
 (.block 2
 (.loop jE))
 (.seq
 (.seq
 (.region [iV 62 (.ab (tm 6)),
 iV 63 (.bin .gtr (tm 62) (kI 0)),
 iV 64 (.ab (tm 63)),
 iG 65 (.ab (tm 0)) 64 true,
 iG 66 (.ab (tm 6)) 64 true,
 iG 67 (.gh (tm 65) none (some (tm 66))) 64 true,
 iH 68 46 [(tm 67)] 64 true,
 iV 69 (.pick (tm 64) (tm 68) (.const (.bool false)))])
 (.cond (.tmp 69)
 (.seq
 (.region [iV 70 (.ab (tm 0)),
 iV 71 (.ab (tm 6)),
 iV 72 (.gh (tm 70) none (some (tm 71))),
 iV 73 (.ab (tm 1)),
 iV 74 (.build [(.int .i64 0), (.str []), (.int .i64 0), (.int .i64 0)] [(0, 1, (kI 3)), (1, 1, (tm 72)), (3, 1, (tm 73))]),
 iN (.store 4 (tm 4) (tm 74)),
 iV 5 (.ab (kI 0))])
 .ret)
 .skip))
 (.seq
 (.seq
 (.region [iV 75 (.ab (tm 6)),
 iV 76 (.bin .gtr (tm 75) (kI 32))])
 (.cond (.tmp 76)
 (.seq
 (.region [iV 77 (.build [(.int .i64 0), (.str []), (.int .i64 0), (.int .i64 0)] []),
 iN (.store 4 (tm 4) (tm 77)),
 iV 5 (.ab (kI 3))])
 .ret)
 .skip))
 (.seq
 (.seq
 (.region [iV 78 (.ab (tm 6)),
 iV 79 (.bin .gtr (tm 78) (kI 0))])
 (.cond (.tmp 79)
 (.seq
 (.region [iV 80 (.ab (tm 0)),
 iV 81 (.ab (tm 6)),
 iV 82 (.gh (tm 80) none (some (tm 81))),
 iV 83 (.ab (tm 1)),
 iV 84 (.build [(.int .i64 0), (.str []), (.int .i64 0), (.int .i64 0)] [(0, 1, (kI 1)), (1, 1, (tm 82)), (3, 1, (tm 83))]),
 iN (.store 4 (tm 4) (tm 84)),
 iV 5 (.ab (kI 0))])
 .ret)
 .skip))
 (.seq
 (.region [iV 85 (.ab (tm 0)),
 iC 86 47 [(tm 85)],
 iV 6 (.ab (tm 86))])
 (.seq
 (.seq
 (.region [iV 87 (.ab (tm 6)),
 iV 88 (.eq false (.aL 1) (tm 87) (kI 0))])
 (.cond (.tmp 88)
 (.seq
 (.region [iV 89 (.build [(.int .i64 0), (.str []), (.int .i64 0), (.int .i64 0)] []),
 iN (.store 4 (tm 4) (tm 89)),
 iV 5 (.ab (kI 6))])
 .ret)
 .skip))
 (.seq
 (.region [iV 90 (.ab (tm 0)),
 iV 91 (.ab (tm 6)),
 iV 92 (.gh (tm 90) none (some (tm 91))),
 iV 93 (.ab (tm 1)),
 iV 94 (.build [(.int .i64 0), (.str []), (.int .i64 0), (.int .i64 0)] [(0, 1, (kI 4)), (1, 1, (tm 92)), (3, 1, (tm 93))]),
 iN (.store 4 (tm 4) (tm 94)),
 iV 5 (.ab (kI 0))])
 .ret)))))))))),
 [.cell 4 (some 4), .tmp 5]⟩
theorem aaA : bW Tryd.prog G Tryd.f25 = some ko := by kernel_rfl
/- (*balustrade/lex.scanner).next -/
abbrev bh : Nat := 27
def gJ : az :=
 ⟨73,
 (.seq
 (.region [iV 2 (.ab (kI 0))])
 (.seq
 (.draw [iV 8 (.ab (tm 0)),
 iV 9 (.cA (tm 8)),
 iV 10 (.aj 0 (tm 9)),
 iV 11 (.load none (tm 10)),
 iV 12 (.ab (tm 0)),
 iV 13 (.cA (tm 12)),
 iV 14 (.aj 1 (tm 13)),
 iV 15 (.load none (tm 14)),
 iV 16 (.gh (tm 11) (some (tm 15)) none),
 iV 3 (.alloc 9 [(.str [])]),
 iN (.store 1 (tm 3) (tm 16))] [])
 (.seq
 (.seq
 (.region [iV 17 (.load none (tm 3)),
 iV 18 (.eD (tm 17) (kI 0)),
 iC 19 48 [(tm 18)]])
 (.block 0
 (.seq
 (.region [iV 21 (.eq false (.aL 1) (tm 19) (kI 1)),
 iV 20 (.ab (tm 21))])
 (.cond (.tmp 20)
 (.draw [iV 22 (.ab (tm 0)),
 iV 23 (.cA (tm 22)),
 iV 24 (.aj 1 (tm 23)),
 iV 25 (.load none (tm 24)),
 iV 26 (.load none (tm 3)),
 iV 27 (.bB 3 1 1 [(.int .i64 0)] [(0, (kI 1))]),
 iC 28 49 [(tm 26), (tm 27)],
 iV 29 (.bin .add (tm 25) (tm 28)),
 iV 30 (.cA (tm 22)),
 iV 31 (.aj 1 (tm 30)),
 iN (.store 1 (tm 31) (tm 29))] [(3, 6)])
 (.seq
 (.region [iV 33 (.eq false (.aL 1) (tm 19) (kI 2)),
 iV 32 (.ab (tm 33))])
 (.cond (.tmp 32)
 (.seq
 (.region [iV 35 (.load none (tm 3)),
 iC 36 50 [(tm 35), (kS [10])],
 iV 34 (.ab (tm 36)),
 iV 37 (.extract (tm 34) 0),
 iV 38 (.extract (tm 34) 1),
 iV 39 (.extract (tm 34) 2),
 iV 4 (.ab (tm 37)),
 iV 5 (.ab (tm 38)),
 iV 6 (.ab (tm 39))])
 (.region [iV 40 (.ab (tm 0)),
 iV 41 (.cA (tm 40)),
 iV 42 (.aj 1 (tm 41)),
 iV 43 (.load none (tm 42)),
 iV 44 (.ab (tm 4)),
 iV 45 (.cH (tm 44)),
 iV 46 (.bin .add (tm 43) (tm 45)),
 iV 47 (.cA (tm 40)),
 iV 48 (.aj 1 (tm 47)),
 iN (.store 1 (tm 48) (tm 46))]))
 (.seq
 (.region [iV 50 (.eq false (.aL 1) (tm 19) (kI 3)),
 iV 49 (.ab (tm 50))])
 (.cond (.tmp 49)
 (.seq
 (.region [iV 51 (.ab (tm 0)),
 iV 52 (.load none (tm 3)),
 iC 53 51 [(tm 51), (tm 52)],
 iV 2 (.ab (tm 53))])
 .ret)
 (.seq
 (.region [iV 55 (.eq false (.aL 1) (tm 19) (kI 4)),
 iV 54 (.ab (tm 55))])
 (.cond (.tmp 54)
 (.seq
 (.region [iV 56 (.ab (tm 0)),
 iV 57 (.load none (tm 3)),
 iC 58 52 [(tm 56), (tm 57)],
 iV 2 (.ab (tm 58))])
 .ret)
 (.seq
 (.region [iV 60 (.eq false (.aL 1) (tm 19) (kI 5)),
 iV 59 (.ab (tm 60))])
 (.cond (.tmp 59)
 (.seq
 (.region [iV 61 (.load none (.const (.ptr 0 0))),
 iV 62 (.BQ 54 [] [(tm 3)]),
 iC 63 53 [(tm 61), (tm 62)],
 iV 7 (.ab (tm 63))])
 (.seq
 (.seq
 (.region [iV 64 (.ab (tm 7)),
 iV 65 (.bin .lss (tm 64) (kI 0))])
 (.cond (.tmp 65)
 (.seq
 (.region [iV 2 (.ab (kI 6))])
 .ret)
 .skip))
 (.region [iV 66 (.ab (tm 0)),
 iV 67 (.load none (.const (.ptr 0 0))),
 iV 68 (.ab (tm 7)),
 iV 69 (.ee 1 (tm 67) (tm 68)),
 iV 70 (.load none (tm 69)),
 iV 71 (.cH (tm 70)),
 iC 72 28 [(tm 66), (kI 4), (tm 71), (kI 0)]])))
 (.seq
 (.region [iV 2 (.ab (kI 6))])
 .ret)))))))))))))
 (.seq
 (.region [iV 2 (.ab (kI 0))])
 .ret)))),
 [.tmp 2]⟩
theorem aaz : bW Tryd.prog G Tryd.f27 = some gJ := by kernel_rfl
/- (*balustrade/lex.scanner).put -/
abbrev fP : Nat := 28
def eH : az :=
 ⟨47,
 (.seq
 (.draw [iV 8 (.ab (tm 0)),
 iV 9 (.ab (tm 0)),
 iV 10 (.cA (tm 9)),
 iV 11 (.aj 2 (tm 10)),
 iV 12 (.load none (tm 11)),
 iV 13 (.ab (tm 1)),
 iV 14 (.ab (tm 0)),
 iV 15 (.cA (tm 14)),
 iV 16 (.aj 0 (tm 15)),
 iV 17 (.load none (tm 16)),
 iV 18 (.ab (tm 0)),
 iV 19 (.cA (tm 18)),
 iV 20 (.aj 1 (tm 19)),
 iV 21 (.load none (tm 20)),
 iV 22 (.ab (tm 0)),
 iV 23 (.cA (tm 22)),
 iV 24 (.aj 1 (tm 23)),
 iV 25 (.load none (tm 24)),
 iV 26 (.ab (tm 2)),
 iV 27 (.bin .add (tm 25) (tm 26)),
 iV 28 (.gh (tm 17) (some (tm 21)) (some (tm 27))),
 iV 29 (.ab (tm 3)),
 iV 30 (.ab (tm 0)),
 iV 31 (.cA (tm 30)),
 iV 32 (.aj 1 (tm 31)),
 iV 33 (.load none (tm 32)),
 iV 34 (.build [(.int .i64 0), (.str []), (.int .i64 0), (.int .i64 0)] [(0, 1, (tm 13)), (1, 1, (tm 28)), (2, 1, (tm 29)), (3, 1, (tm 33))]),
 iV 35 (.bB 36 4 1 [(.int .i64 0), (.str []), (.int .i64 0), (.int .i64 0)] [(0, (tm 34))]),
 iV 36 (.append 36 4 40 (tm 12) (tm 35)),
 iV 37 (.cA (tm 8)),
 iV 38 (.aj 2 (tm 37)),
 iN (.store 1 (tm 38) (tm 36))] [])
 (.region [iV 39 (.ab (tm 0)),
 iV 40 (.cA (tm 39)),
 iV 41 (.aj 1 (tm 40)),
 iV 42 (.load none (tm 41)),
 iV 43 (.ab (tm 2)),
 iV 44 (.bin .add (tm 42) (tm 43)),
 iV 45 (.cA (tm 39)),
 iV 46 (.aj 1 (tm 45)),
 iN (.store 1 (tm 46) (tm 44))])),
 []⟩
theorem aay : bW Tryd.prog G Tryd.f28 = some eH := by kernel_rfl
/- (*balustrade/expr.Reader).fine -/
abbrev ju : Nat := 29
def bD : az :=
 ⟨9,
 (.seq
 (.region [iV 2 (.ab (.const (.bool false)))])
 (.seq
 (.region [iV 3 (.ab (tm 0)),
 iV 4 (.cA (tm 3)),
 iV 5 (.aj 5 (tm 4)),
 iV 6 (.aj 0 (tm 5)),
 iV 7 (.load none (tm 6)),
 iV 8 (.eq false (.aL 1) (tm 7) (kI 0)),
 iV 2 (.ab (tm 8))])
 .ret)),
 [.tmp 2]⟩
theorem aax : bW Tryd.prog G Tryd.f29 = some bD := by kernel_rfl
/- (*balustrade/expr.Reader).Want -/
abbrev aS : Nat := 30
def dy : az :=
 ⟨17,
 (.seq
 (.region [iV 4 (.ab (.const (.bool false)))])
 (.seq
 (.region [iV 6 (.ab (tm 0)),
 iV 7 (.ab (tm 1)),
 iC 8 56 [(tm 6), (tm 7)],
 iV 5 (.ab (tm 8))])
 (.seq
 (.seq
 (.region [iV 9 (.ab (tm 5)),
 iV 10 (.un .not (tm 9))])
 (.cond (.tmp 10)
 (.region [iV 11 (.ab (tm 0)),
 iV 12 (.ab (tm 0)),
 iC 13 15 [(tm 12)],
 iV 14 (.A5 none 3 (tm 13)),
 iC 15 17 [(tm 11), (kI 8), (tm 14)]])
 .skip))
 (.seq
 (.region [iV 16 (.ab (tm 5)),
 iV 4 (.ab (tm 16))])
 .ret)))),
 [.tmp 4]⟩
theorem aaw : bW Tryd.prog G Tryd.f30 = some dy := by kernel_rfl
/- (*balustrade/expr.Reader).Name -/
abbrev eN : Nat := 31
def cN : az :=
 ⟨20,
 (.seq
 (.region [iV 2 (.ab (kS []))])
 (.seq
 (.seq
 (.region [iV 3 (.ab (tm 0)),
 iC 4 29 [(tm 3)],
 iV 5 (.un .not (tm 4)),
 iV 6 (.ab (tm 5)),
 iG 7 (.ab (tm 0)) 6 false,
 iH 8 15 [(tm 7)] 6 false,
 iG 9 (.A5 none 0 (tm 8)) 6 false,
 iG 10 (.eq true (.aL 1) (tm 9) (kI 1)) 6 false,
 iV 11 (.pick (tm 6) (.const (.bool true)) (tm 10))])
 (.cond (.tmp 11)
 (.seq
 (.region [iV 12 (.ab (tm 0)),
 iV 13 (.ab (tm 0)),
 iC 14 15 [(tm 13)],
 iV 15 (.A5 none 3 (tm 14)),
 iC 16 17 [(tm 12), (kI 8), (tm 15)]])
 (.seq
 (.region [iV 2 (.ab (kS []))])
 .ret))
 .skip))
 (.seq
 (.region [iV 17 (.ab (tm 0)),
 iC 18 57 [(tm 17)],
 iV 19 (.A5 none 1 (tm 18)),
 iV 2 (.ab (tm 19))])
 .ret))),
 [.tmp 2]⟩
theorem aav : bW Tryd.prog G Tryd.f31 = some cN := by kernel_rfl
/- (balustrade/parse.reader).parameters -/
abbrev kA : Nat := 32
def aK : aE :=
 (.seq
 (.seq
 (.region [iV 14 (.ab (tm 4)),
 iV 15 (.ab (tm 14)),
 iG 16 (.load (some 1) (tm 1)) 15 true,
 iH 17 14 [(tm 16)] 15 true,
 iV 18 (.pick (tm 15) (tm 17) (.const (.bool false)))])
 (.cond (.tmp 18)
 .skip
 (.exit 0)))
 (.seq
 (.block 1
 (.seq
 (.region [iV 22 (.aj 0 (tm 1)),
 iV 23 (.load none (tm 22)),
 iC 24 15 [(tm 23)],
 iV 25 (.A5 none 3 (tm 24)),
 iV 5 (.ab (tm 25))])
 (.seq
 (.region [iV 26 (.aj 0 (tm 1)),
 iV 27 (.load none (tm 26)),
 iC 28 31 [(tm 27)],
 iV 6 (.ab (tm 28))])
 (.seq
 (.seq
 (.region [iV 29 (.ab (tm 3)),
 iV 30 (.len (tm 29)),
 iV 31 (.eq false (.aL 1) (tm 30) (kI 8))])
 (.cond (.tmp 31)
 (.region [iV 32 (.aj 0 (tm 1)),
 iV 33 (.load none (tm 32)),
 iV 34 (.ab (tm 5)),
 iC 35 17 [(tm 33), (kI 3), (tm 34)]])
 .skip))
 (.draw [iV 36 (.ab (tm 3)),
 iV 37 (.aj 0 (tm 1)),
 iV 38 (.load none (tm 37)),
 iV 39 (.ab (tm 6)),
 iV 40 (.load (some 1) (tm 1)),
 iC 41 33 [(tm 40)],
 iV 42 (.ab (tm 5)),
 iV 43 (.build [(.int .i64 0), .ae, (.int .i64 0), (.str []), (.int .i64 0)] [(0, 1, (kI 24)), (3, 1, (tm 39)), (2, 1, (tm 41)), (4, 1, (tm 42))]),
 iC 44 19 [(tm 38), (tm 43)],
 iV 45 (.bB 3 1 1 [(.int .i64 0)] [(0, (tm 44))]),
 iV 46 (.append 3 1 8 (tm 36) (tm 45)),
 iV 3 (.ab (tm 46))] [(2, 5)])))))
 (.region [iV 19 (.aj 0 (tm 1)),
 iV 20 (.load none (tm 19)),
 iC 21 56 [(tm 20), (kS [44])],
 iV 4 (.ab (tm 21))])))
def bV : az :=
 ⟨51,
 (.seq
 (.region [iV 1 (.box 45 (tm 0)),
 iV 2 (.ab (.const .ae))])
 (.seq
 (.region [iV 7 (.aj 0 (tm 1)),
 iV 8 (.load none (tm 7)),
 iC 9 30 [(tm 8), (kS [40])]])
 (.seq
 (.region [iV 3 (.ab (.const .ae))])
 (.seq
 (.seq
 (.region [iV 10 (.aj 0 (tm 1)),
 iV 11 (.load none (tm 10)),
 iC 12 16 [(tm 11), (kS [41])],
 iV 13 (.un .not (tm 12)),
 iV 4 (.ab (tm 13))])
 (.block 0
 (.loop aK)))
 (.seq
 (.region [iV 47 (.aj 0 (tm 1)),
 iV 48 (.load none (tm 47)),
 iC 49 30 [(tm 48), (kS [41])]])
 (.seq
 (.region [iV 50 (.ab (tm 3)),
 iV 2 (.ab (tm 50))])
 .ret)))))),
 [.tmp 2]⟩
theorem aau : bW Tryd.prog G Tryd.f32 = some bV := by kernel_rfl
/- (balustrade/parse.reader).kind -/
abbrev iO : Nat := 33
def dv : aE :=
 (.seq
 (.region [iV 8 (.bin .lss (tm 7) (tm 6))])
 (.seq
 (.cond (.tmp 8)
 .skip
 (.exit 0))
 (.seq
 (.block 1
 (.seq
 (.region [iV 9 (.ab (tm 7)),
 iV 10 (.ee 1 (tm 5) (tm 7)),
 iV 11 (.load none (tm 10)),
 iV 3 (.ab (tm 9)),
 iV 4 (.ab (tm 11))])
 (.seq
 (.region [iV 12 (.aj 0 (tm 1)),
 iV 13 (.load none (tm 12)),
 iV 14 (.ab (tm 4)),
 iC 15 56 [(tm 13), (tm 14)]])
 (.cond (.tmp 15)
 (.seq
 (.region [iV 16 (.ab (tm 3)),
 iV 17 (.bin .add (tm 16) (kI 1)),
 iV 2 (.ab (tm 17))])
 .ret)
 .skip))))
 (.region [iV 18 (.bin .add (tm 7) (kI 1)),
 iV 7 (.ab (tm 18))]))))
def dL : az :=
 ⟨26,
 (.seq
 (.region [iV 1 (.box 45 (tm 0)),
 iV 2 (.ab (kI 0))])
 (.seq
 (.seq
 (.region [iV 5 (.bB 9 1 3 [(.str [])] [(0, (kS [105, 110, 116])), (1, (kS [98, 111, 111, 108])), (2, (kS [97, 114, 114]))]),
 iV 6 (.len (tm 5)),
 iV 7 (.ab (kI 0))])
 (.block 0
 (.loop dv)))
 (.seq
 (.draw [iV 19 (.aj 0 (tm 1)),
 iV 20 (.load none (tm 19)),
 iV 21 (.aj 0 (tm 1)),
 iV 22 (.load none (tm 21)),
 iC 23 15 [(tm 22)],
 iV 24 (.A5 none 3 (tm 23)),
 iC 25 17 [(tm 20), (kI 8), (tm 24)]] [(1, 4)])
 (.seq
 (.region [iV 2 (.ab (kI 0))])
 .ret)))),
 [.tmp 2]⟩
theorem aat : bW Tryd.prog G Tryd.f33 = some dL := by kernel_rfl
/- (balustrade/parse.reader).block -/
abbrev eR : Nat := 34
def dY : aE :=
 (.seq
 (.seq
 (.region [iV 20 (.aj 0 (tm 1)),
 iV 21 (.load none (tm 20)),
 iC 22 56 [(tm 21), (kS [125])],
 iV 23 (.un .not (tm 22))])
 (.cond (.tmp 23)
 .skip
 (.exit 0)))
 (.block 1
 (.seq
 (.region [iV 24 (.ab (tm 4)),
 iV 25 (.load (some 1) (tm 1)),
 iC 26 59 [(tm 25)],
 iV 27 (.bB 3 1 1 [(.int .i64 0)] [(0, (tm 26))]),
 iV 28 (.append 3 1 8 (tm 24) (tm 27)),
 iV 4 (.ab (tm 28))])
 (.seq
 (.region [iV 29 (.load (some 1) (tm 1)),
 iC 30 14 [(tm 29)],
 iV 31 (.un .not (tm 30))])
 (.cond (.tmp 31)
 (.exit 0)
 .skip)))))
def de : az :=
 ⟨41,
 (.seq
 (.region [iV 1 (.box 45 (tm 0)),
 iV 2 (.ab (kI 0))])
 (.seq
 (.region [iV 5 (.aj 0 (tm 1)),
 iV 6 (.load none (tm 5)),
 iC 7 15 [(tm 6)],
 iV 8 (.A5 none 3 (tm 7)),
 iV 3 (.ab (tm 8))])
 (.seq
 (.seq
 (.region [iV 9 (.aj 0 (tm 1)),
 iV 10 (.load none (tm 9)),
 iC 11 30 [(tm 10), (kS [123])],
 iV 12 (.un .not (tm 11)),
 iV 13 (.ab (tm 12)),
 iG 14 (.aj 0 (tm 1)) 13 false,
 iG 15 (.load none (tm 14)) 13 false,
 iG 16 (.ab (tm 3)) 13 false,
 iH 17 58 [(tm 15), (tm 16)] 13 false,
 iG 18 (.un .not (tm 17)) 13 false,
 iV 19 (.pick (tm 13) (.const (.bool true)) (tm 18))])
 (.cond (.tmp 19)
 (.seq
 (.region [iV 2 (.ab (kI (-1)))])
 .ret)
 .skip))
 (.seq
 (.region [iV 4 (.ab (.const .ae))])
 (.seq
 .skip
 (.seq
 (.block 0
 (.loop dY))
 (.seq
 (.region [iV 32 (.aj 0 (tm 1)),
 iV 33 (.load none (tm 32)),
 iC 34 60 [(tm 33)]])
 (.seq
 (.region [iV 35 (.aj 0 (tm 1)),
 iV 36 (.load none (tm 35)),
 iV 37 (.ab (tm 4)),
 iV 38 (.ab (tm 3)),
 iV 39 (.build [(.int .i64 0), .ae, (.int .i64 0), (.str []), (.int .i64 0)] [(0, 1, (kI 23)), (1, 1, (tm 37)), (4, 1, (tm 38))]),
 iC 40 19 [(tm 36), (tm 39)],
 iV 2 (.ab (tm 40))])
 .ret)))))))),
 [.tmp 2]⟩
theorem aas : bW Tryd.prog G Tryd.f34 = some de := by kernel_rfl
/- slices.Clone[[]balustrade/api.Node,balustrade/api.Node] -/
abbrev rM : Nat := 35
def cw : az :=
 ⟨8,
 (.seq
 (.region [iV 2 (.ab (.const .ae))])
 (.seq
 (.seq
 (.region [iV 3 (.ab (tm 0)),
 iV 4 (.eq false (.aL 4) (tm 3) (.const .ae))])
 (.cond (.tmp 4)
 (.seq
 (.region [iV 2 (.ab (.const .ae))])
 .ret)
 .skip))
 (.seq
 (.region [iV 5 (.bB 39 5 0 [(.int .i64 0), .ae, (.int .i64 0), (.str []), (.int .i64 0)] []),
 iV 6 (.ab (tm 0)),
 iV 7 (.append 39 5 64 (tm 5) (tm 6)),
 iV 2 (.ab (tm 7))])
 .ret))),
 [.tmp 2]⟩
theorem aar : bW Tryd.prog G Tryd.f35 = some cw := by kernel_rfl
/- balustrade/balustraderef06.own -/
abbrev Gw : Nat := 36
def lC : az :=
 ⟨83,
 (.seq
 (.region [iV 1 (.box 39 (tm 0)),
 iV 2 (.ab (.const (.bool false)))])
 (.seq
 (.seq
 (.draw [iV 3 (.aj 0 (tm 1)),
 iV 4 (.load none (tm 3)),
 iV 5 (.bin .lss (tm 4) (kI 1)),
 iV 6 (.ab (tm 5)),
 iG 7 (.aj 0 (tm 1)) 6 false,
 iG 8 (.load none (tm 7)) 6 false,
 iG 9 (.bin .gtr (tm 8) (kI 26)) 6 false,
 iV 10 (.pick (tm 6) (.const (.bool true)) (tm 9)),
 iV 11 (.ab (tm 10)),
 iG 12 (.aj 4 (tm 1)) 11 false,
 iG 13 (.load none (tm 12)) 11 false,
 iG 14 (.bin .lss (tm 13) (kI 0)) 11 false,
 iV 15 (.pick (tm 11) (.const (.bool true)) (tm 14)),
 iV 16 (.ab (tm 15)),
 iG 17 (.aj 0 (tm 1)) 16 false,
 iG 18 (.load none (tm 17)) 16 false,
 iH 19 61 [(tm 18)] 16 false,
 iG 20 (.aj 3 (tm 1)) 16 false,
 iG 21 (.load none (tm 20)) 16 false,
 iG 22 (.eq true (.aL 2) (tm 21) (kS [])) 16 false,
 iG 23 (.eq true (.aL 0) (tm 19) (tm 22)) 16 false,
 iV 24 (.pick (tm 16) (.const (.bool true)) (tm 23)),
 iV 25 (.ab (tm 24)),
 iG 26 (.aj 3 (tm 1)) 25 false,
 iG 27 (.load none (tm 26)) 25 false,
 iG 28 (.eq true (.aL 2) (tm 27) (kS [])) 25 false,
 iG 29 (.ab (tm 28)) 25 false,
 iG 30 (.aj 3 (tm 1)) 29 true,
 iG 31 (.load none (tm 30)) 29 true,
 iH 32 62 [(tm 31)] 29 true,
 iG 33 (.un .not (tm 32)) 29 true,
 iG 34 (.pick (tm 29) (tm 33) (.const (.bool false))) 25 false,
 iV 35 (.pick (tm 25) (.const (.bool true)) (tm 34))] [(18, 16)])
 (.cond (.tmp 35)
 (.seq
 (.region [iV 2 (.ab (.const (.bool false)))])
 .ret)
 .skip))
 (.seq
 (.seq
 (.region [iV 36 (.aj 0 (tm 1)),
 iV 37 (.load none (tm 36)),
 iV 38 (.eq false (.aL 1) (tm 37) (kI 1))])
 (.cond (.tmp 38)
 (.seq
 (.region [iV 39 (.aj 2 (tm 1)),
 iV 40 (.load none (tm 39)),
 iV 41 (.bin .geq (tm 40) (kI 0)),
 iV 2 (.ab (tm 41))])
 .ret)
 .skip))
 (.seq
 (.seq
 (.region [iV 42 (.aj 0 (tm 1)),
 iV 43 (.load none (tm 42)),
 iV 44 (.eq false (.aL 1) (tm 43) (kI 2))])
 (.cond (.tmp 44)
 (.seq
 (.region [iV 45 (.aj 2 (tm 1)),
 iV 46 (.load none (tm 45)),
 iV 47 (.eq false (.aL 1) (tm 46) (kI 0)),
 iV 48 (.ab (tm 47)),
 iG 49 (.aj 2 (tm 1)) 48 false,
 iG 50 (.load none (tm 49)) 48 false,
 iG 51 (.eq false (.aL 1) (tm 50) (kI 1)) 48 false,
 iV 52 (.pick (tm 48) (.const (.bool true)) (tm 51)),
 iV 2 (.ab (tm 52))])
 .ret)
 .skip))
 (.seq
 (.seq
 (.region [iV 53 (.aj 0 (tm 1)),
 iV 54 (.load none (tm 53)),
 iV 55 (.eq false (.aL 1) (tm 54) (kI 5))])
 (.cond (.tmp 55)
 (.seq
 (.region [iV 56 (.aj 2 (tm 1)),
 iV 57 (.load none (tm 56)),
 iV 58 (.bin .geq (tm 57) (kI 1)),
 iV 59 (.ab (tm 58)),
 iG 60 (.aj 2 (tm 1)) 59 true,
 iG 61 (.load none (tm 60)) 59 true,
 iG 62 (.bin .leq (tm 61) (kI 16)) 59 true,
 iV 63 (.pick (tm 59) (tm 62) (.const (.bool false))),
 iV 2 (.ab (tm 63))])
 .ret)
 .skip))
 (.seq
 (.seq
 (.region [iV 64 (.aj 0 (tm 1)),
 iV 65 (.load none (tm 64)),
 iV 66 (.eq false (.aL 1) (tm 65) (kI 24)),
 iV 67 (.ab (tm 66)),
 iG 68 (.aj 0 (tm 1)) 67 false,
 iG 69 (.load none (tm 68)) 67 false,
 iG 70 (.eq false (.aL 1) (tm 69) (kI 25)) 67 false,
 iV 71 (.pick (tm 67) (.const (.bool true)) (tm 70))])
 (.cond (.tmp 71)
 (.seq
 (.region [iV 72 (.aj 2 (tm 1)),
 iV 73 (.load none (tm 72)),
 iV 74 (.bin .geq (tm 73) (kI 1)),
 iV 75 (.ab (tm 74)),
 iG 76 (.aj 2 (tm 1)) 75 true,
 iG 77 (.load none (tm 76)) 75 true,
 iG 78 (.bin .leq (tm 77) (kI 3)) 75 true,
 iV 79 (.pick (tm 75) (tm 78) (.const (.bool false))),
 iV 2 (.ab (tm 79))])
 .ret)
 .skip))
 (.seq
 (.region [iV 80 (.aj 2 (tm 1)),
 iV 81 (.load none (tm 80)),
 iV 82 (.eq false (.aL 1) (tm 81) (kI 0)),
 iV 2 (.ab (tm 82))])
 .ret))))))),
 [.tmp 2]⟩
theorem aaq : bW Tryd.prog G Tryd.f36 = some lC := by kernel_rfl
end
end Go.Proofs.YtdiccmapankckaaDoor.Ev
