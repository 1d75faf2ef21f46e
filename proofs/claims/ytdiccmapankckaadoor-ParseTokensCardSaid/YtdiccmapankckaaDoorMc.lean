/- EvDrawEnd, EvCode, EvF0, EvF1. -/
import Derived.Scope
import Derived.Recover
import Derived.KernelRfl
import Derived.Test.YtdiccmapankckaaDoorChecked
import Derived.Test.YtdiccmapankckaaDoorMb
set_option linter.unusedSimpArgs false
set_option linter.unusedVariables false
set_option linter.unusedSectionVars false
set_option linter.defProp false
set_option maxRecDepth 20000
set_option maxHeartbeats 8000000
namespace Go.Proofs.YtdiccmapankckaaDoor.Ev
open Go
section
section
variable {P : Program} {G : List Nat} {n : Nat} {call : Call}
theorem Qh (op : lD) : cW op <= 3 := by
 cases op <;> simp [cW]
 case conv c x => cases c <;> simp
theorem Ci (op : Aq) : sort op <= 3 := by
 cases op <;> simp only [sort] <;> first | exact Qh _ | omega
theorem En {f : aW -> EV} {op : lD} (hs : cW op = 1) {m m1 : Mem} {v : EV} (h : aB f op m = some (.val v m1)) : ∃ (B : fK) (mk : Nat -> EV), v = mk m.next /\ m1 = m.new B /\ ∀ m', aB f op m' = some (.val (mk m'.next) (m'.new B)) := by
 cases op <;> (try simp only [cW] at hs) <;> (try (simp at hs; done))
 case alloc e z =>
  simp only [aB, bf, R1.val.injEq] at h ⊢
  exact ⟨.cells z z.length e false, fun k => .ptr k 0, h.1.symm, h.2.symm, fun m' => ⟨rfl, rfl⟩⟩
 case box e x =>
  simp only [aB] at h ⊢
  cases hc : (f x).cells with
  | none => simp [hc] at h
  | some cs =>
   simp only [hc, bf, R1.val.injEq] at h ⊢
   exact ⟨.cells cs cs.length e false, fun k => .ptr k 0, h.1.symm, h.2.symm, fun m' => ⟨rfl, rfl⟩⟩
 case bt e s len z ps =>
  simp only [aB] at h ⊢
  cases hc : fB (eD len z) (ps.map fun p => (p.1 * s, s, f p.2)) with
  | none => simp [hc] at h
  | some cs =>
   simp only [hc, bf, R1.val.injEq] at h ⊢
   exact ⟨.cells cs s e false, fun k => .slice k 0 len (some len), h.1.symm, h.2.symm, fun m' => ⟨rfl, rfl⟩⟩
 case uT =>
  simp only [aB, bf, R1.val.injEq] at h ⊢
  exact ⟨.map [], fun k => .map k, h.1.symm, h.2.symm, fun m' => ⟨rfl, rfl⟩⟩
 case lL e s z l c =>
  simp only [aB, Bool.cond_eq_ite] at h ⊢
  generalize f l = el at h ⊢
  generalize f c = ec at h ⊢
  split at h
  ·rename_i ln cn
   split at h
   ·rename_i hq
    split at h
    ·rename_i hq2
     simp only [bf, R1.val.injEq] at h;exact ⟨.cells (eD cn z) s e false, fun k => .slice k 0 ln (some cn), h.1.symm, h.2.symm, fun m' => by rw [if_pos hq, if_pos hq2]⟩
    ·cases h
   ·cases h
  ·cases h
 case conv c x =>
  cases c <;> (try (simp at hs; done))
  rename_i e
  simp only [aB] at h ⊢
  have h1 := lH h
  generalize f x = ex at h1 ⊢
  cases ex <;> simp only [kY, reduceCtorEq, bf, eO] at h1
  rename_i s
  exact ⟨.cells (s.map fun b => .int .u8 (b.toNat : Int)) 1 e false, fun k => .slice k 0 s.length none, h1.1.symm, h1.2.symm, fun m' => rfl⟩
theorem QX {m : Mem} {agg : Option Nat} {x v : EV} (hf : Gz x = false) (h : m.load agg x = some v) : ∃ b off, x = .ptr b off /\ m.get b ≠ .dead := by
 cases x <;> simp only [Mem.load, reduceCtorEq] at h
 case fI => simp [Gz] at hf
 rename_i b off
 refine ⟨b, off, rfl, fun e => ?_⟩
 rw [e] at h
 cases h
theorem QY {o : Oper} {io : lD} (hc : UK P G o = some io) (hs : cW io = 2) : ∃ agg x x0, io = .load agg x /\ fc G x0 = some x := by
 unfold UK at hc
 split at hc
 case h_1 => obtain ⟨_, _, rfl⟩ := ag hc; simp [cW] at hs
 case h_2 => obtain ⟨_, _, rfl⟩ := ag hc; simp [cW] at hs
 case h_3 => obtain ⟨_, _, hc⟩ := af hc; obtain ⟨_, _, hc⟩ := af hc; obtain ⟨_, _, rfl⟩ := ag hc; simp [cW] at hs
 case h_4 => obtain ⟨_, _, rfl⟩ := ag hc; simp [cW] at hs
 case h_5 => obtain ⟨_, _, rfl⟩ := ag hc; simp [cW] at hs
 case h_6 =>
  obtain ⟨_, _, hc⟩ := af hc
  rcases fW hc with hc | hc
  ·obtain ⟨_, _, hc⟩ := af hc; obtain ⟨_, _, hc⟩ := af hc; obtain ⟨_, _, rfl⟩ := ag hc; simp [cW] at hs
  ·obtain ⟨_, _, hc⟩ := af hc; obtain ⟨_, _, hc⟩ := af hc; obtain ⟨_, _, rfl⟩ := ag hc; simp [cW] at hs
 case h_7 => obtain ⟨_, _, hc⟩ := af hc; obtain ⟨_, _, hc⟩ := af hc; obtain ⟨_, _, hc⟩ := af hc; obtain ⟨_, _, hc⟩ := af hc; obtain ⟨_, _, hc⟩ := af hc; obtain ⟨_, _, rfl⟩ := ag hc; simp [cW] at hs
 case h_8 => obtain ⟨_, _, hc⟩ := af hc; obtain ⟨x, hx, rfl⟩ := ag hc; exact ⟨_, x, _, rfl, hx⟩
 case h_9 => obtain ⟨_, _, hc⟩ := af hc; obtain ⟨_, _, hc⟩ := af hc; obtain ⟨_, _, rfl⟩ := ag hc; simp [cW] at hs
 case h_10 => obtain ⟨_, _, rfl⟩ := ag hc; simp [cW] at hs
 case h_11 op t x y yt ho =>
  obtain ⟨_, _, hc⟩ := af hc; obtain ⟨_, _, hc⟩ := af hc
  split at hc
  ·unfold UL at hc
   simp only [Bool.cond_eq_ite] at hc
   split at hc <;> (obtain ⟨_, _, rfl⟩ := ag hc; simp [cW] at hs)
  ·unfold UL at hc
   simp only [Bool.cond_eq_ite] at hc
   split at hc <;> (obtain ⟨_, _, rfl⟩ := ag hc; simp [cW] at hs)
  ·cases hc; simp [cW] at hs
 case h_12 => obtain ⟨_, _, rfl⟩ := ag hc; simp [cW] at hs
 case h_13 =>
  obtain ⟨_, _, hc⟩ := af hc
  rcases fW hc with hc | hc
  ·obtain ⟨_, _, hc⟩ := af hc; obtain ⟨_, _, rfl⟩ := ag hc; simp [cW] at hs
  rcases fW hc with hc | hc
  ·obtain ⟨_, _, hc⟩ := af hc; obtain ⟨_, _, rfl⟩ := ag hc; simp [cW] at hs
  rcases fW hc with hc | hc
  ·obtain ⟨_, _, hc⟩ := af hc; obtain ⟨_, _, hc⟩ := af hc; obtain ⟨_, _, hc⟩ := af hc; obtain ⟨_, _, rfl⟩ := ag hc; simp [cW] at hs
  obtain ⟨_, _, hc⟩ := af hc; obtain ⟨_, _, hc⟩ := af hc; obtain ⟨_, _, hc⟩ := af hc; obtain ⟨_, _, rfl⟩ := ag hc; simp [cW] at hs
 case h_14 => obtain ⟨_, _, hc⟩ := af hc; obtain ⟨_, _, rfl⟩ := ag hc; simp [cW] at hs
 case h_15 => obtain ⟨_, _, hc⟩ := af hc; obtain ⟨_, _, rfl⟩ := ag hc; simp [cW] at hs
 case h_16 => obtain ⟨_, _, rfl⟩ := ag hc; simp [cW] at hs
 case h_17 => obtain ⟨_, _, rfl⟩ := ag hc; simp [cW] at hs
 case h_18 => obtain ⟨_, _, hc⟩ := af hc; obtain ⟨_, _, hc⟩ := af hc; obtain ⟨_, _, hc⟩ := af hc; obtain ⟨_, _, hc⟩ := af hc; obtain ⟨_, _, hc⟩ := af hc; obtain ⟨_, _, hc⟩ := af hc; obtain ⟨_, _, rfl⟩ := ag hc; simp [cW] at hs
 case h_19 =>
  obtain ⟨_, _, hc⟩ := af hc; obtain ⟨_, _, hc⟩ := af hc; obtain ⟨_, _, hc⟩ := af hc; obtain ⟨_, _, hc⟩ := af hc; obtain ⟨_, _, hc⟩ := af hc
  rcases fW hc with hc | hc
  ·obtain ⟨_, _, hc⟩ := af hc; obtain ⟨_, _, rfl⟩ := ag hc; simp [cW] at hs
  rcases fW hc with hc | hc
  ·obtain ⟨_, _, hc⟩ := af hc; obtain ⟨_, _, rfl⟩ := ag hc; simp [cW] at hs
  ·obtain ⟨_, _, hc⟩ := af hc; obtain ⟨_, _, rfl⟩ := ag hc; simp [cW] at hs
 case h_20 => obtain ⟨_, _, hc⟩ := af hc; obtain ⟨_, _, hc⟩ := af hc; obtain ⟨_, _, hc⟩ := af hc; obtain ⟨_, _, hc⟩ := af hc; obtain ⟨_, _, rfl⟩ := ag hc; simp [cW] at hs
 case h_21 => obtain ⟨_, _, hc⟩ := af hc; obtain ⟨_, _, hc⟩ := af hc; obtain ⟨_, _, hc⟩ := af hc; obtain ⟨_, _, rfl⟩ := ag hc; simp [cW] at hs
 case h_22 =>
  obtain ⟨_, _, hc⟩ := af hc; obtain ⟨_, _, hc⟩ := af hc
  rcases fW hc with hc | hc
  ·obtain ⟨_, _, hc⟩ := af hc; obtain ⟨_, _, rfl⟩ := ag hc; simp [cW] at hs
  ·obtain ⟨_, _, hc⟩ := af hc; obtain ⟨_, _, rfl⟩ := ag hc; simp [cW] at hs
 case h_23 =>
  obtain ⟨_, _, hc⟩ := af hc; obtain ⟨_, _, hc⟩ := af hc
  rcases fW hc with hc | hc
  ·obtain ⟨_, _, rfl⟩ := ag hc; simp [cW] at hs
  ·obtain ⟨_, _, hc⟩ := af hc; obtain ⟨_, _, hc⟩ := af hc; obtain ⟨_, _, rfl⟩ := ag hc; simp [cW] at hs
 case h_24 => obtain ⟨_, _, hc⟩ := af hc; obtain ⟨_, _, hc⟩ := af hc; obtain ⟨_, _, hc⟩ := af hc; obtain ⟨_, _, hc⟩ := af hc; obtain ⟨_, _, rfl⟩ := ag hc; simp [cW] at hs
 case h_25 => obtain ⟨_, _, hc⟩ := af hc; obtain ⟨_, _, hc⟩ := af hc; obtain ⟨_, _, hc⟩ := af hc; obtain ⟨_, _, hc⟩ := af hc; obtain ⟨_, _, rfl⟩ := ag hc; simp [cW] at hs
 case h_26 => obtain ⟨_, _, hc⟩ := af hc; obtain ⟨_, _, hc⟩ := af hc; obtain ⟨_, _, hc⟩ := af hc; obtain ⟨_, _, hc⟩ := af hc; obtain ⟨_, _, rfl⟩ := ag hc; simp [cW] at hs
 case h_27 => obtain ⟨_, _, hc⟩ := af hc; obtain ⟨_, _, rfl⟩ := ag hc; simp [cW] at hs
 case h_28 => obtain ⟨_, _, rfl⟩ := ag hc; simp [cW] at hs
 case h_29 c ho =>
  obtain ⟨ys, Rh, hc⟩ := af hc
  split at hc
  ·exfalso
   unfold vp at hc;simp only [Bool.cond_eq_ite] at hc
   split at hc
   ·split at hc <;> first | (cases hc; simp [cW] at hs; done) | cases hc
   ·split at hc <;> first | (cases hc; simp [cW] at hs; done) | cases hc
   ·cases hc; simp [cW] at hs
   ·cases hc; simp [cW] at hs
   ·obtain ⟨_, _, hc⟩ := af hc
    obtain ⟨_, _, hc⟩ := af hc
    obtain ⟨_, _, hc⟩ := af hc
    obtain ⟨_, _, hc⟩ := af hc
    obtain ⟨_, _, hc⟩ := af hc
    split at hc <;> first | (cases hc; simp [cW] at hs; done) | cases hc
   ·split at hc
    ·split at hc <;> first | (cases hc; simp [cW] at hs; done) | cases hc
    ·cases hc
   ·split at hc
    ·obtain ⟨_, _, rfl⟩ := ag hc; simp [cW] at hs
    ·cases hc
   ·cases hc
  ·cases hc
 case h_30 => cases hc
theorem OS {o : ba} {x : aW} (hx : x ∈ oV o.op) : ∀ t, x = .tmp t -> t ∈ named o := by
 intro t ht
 subst ht;unfold named;have : t ∈ tmpsOf (oV o.op) := by
  generalize oV o.op = l at hx
  induction l with
  | nil => simp at hx
  | cons y l ih =>
   rcases oU.1 hx with e | Y6
   ·subst e; simp [tmpsOf]
   ·cases y with
    | tmp s => simp only [tmpsOf]; exact As _ (ih Y6)
    | const v => simp only [tmpsOf]; exact ih Y6
 simp [this]
theorem Jq {o : ba} {t : Nat} {b : Bool} (h : o.guard = some (t, b)) : t ∈ named o := by unfold named; simp [h]
theorem OT {o : ba} {t : Nat} (h : o.dst = some t) : t ∈ named o := by unfold named; simp [h]
structure Cx (P : Program) (G : List Nat) (n : Nat) (call : Call) (ops : Array Oper) (is : List ba) (chk : List (Nat × Nat)) (B0 : Nat) (F : Nat -> Fr) (M : Nat -> Mem) (V : Nat -> EV) : Prop where
 comp : ∀ (i : Nat) (io : ba), is[i]? = some io -> ∃ o, ops[i]? = some o /\ ul P G n ops o = some io
 at_ : ∀ (k : Nat) (o : ba), is[k]? = some o -> At call B0 o k (F k) (M k) (V k) (M (k + 1)) /\ F (k + 1) = (F k).put o.dst (V k)
 c1 : ∀ (k : Nat) (o : ba) (agg : Option Nat) (a : aW) (l : Nat) (q : ba), is[k]? = some o -> is[l]? = some q -> Fm o (F k) agg a -> nU q (F l) -> bV k l chk = true ->
  (l < k -> (M l).eI agg ((F k).eval a) (V k) = true) /\ (k < l -> (M (l + 1)).eI agg ((F k).eval a) (V k) = true)
 open_ : ∀ (i j : Nat) (io jo : ba), i < j -> is[i]? = some io -> is[j]? = some jo -> i ∉ (fu ops.toList []).getD j [] ->
  ¬ (sort io.op = 3 /\ sort jo.op = 3) /\ (∀ t, io.dst = some t -> t ∉ named jo) /\ (∀ t, jo.dst = some t -> t ∉ named io) /\ (sort io.op = 2 -> sort jo.op = 3 -> bV i j chk = true) /\ (sort io.op = 3 -> sort jo.op = 2 -> bV j i chk = true)
variable {ops : Array Oper} {is : List ba} {chk : List (Nat × Nat)} {B0 : Nat} {F : Nat -> Fr} {M : Nat -> Mem} {V : Nat -> EV}
def zZ (is : List ba) (F : Nat -> Fr) (V : Nat -> EV) (S : List Nat) (t : Nat) : Nat -> EV
 | 0 => (F 0).get t
 | k + 1 => if k ∈ S /\ (is[k]?).bind (·.dst) = some t then V k else zZ is F V S t k
theorem A4 (C : Cx P G n call ops is chk B0 F M V) (S : List Nat) (t : Nat) : ∀ k, k <= is.length -> (∀ j o, j < k -> is[j]? = some o -> o.dst = some t -> j ∈ S) -> zZ is F V S t k = (F k).get t
 | 0, _, _ => rfl
 | k + 1, hk, h => by
  have bn : k < is.length := by omega
  have ho : is[k]? = some is[k] := nc bn
  obtain ⟨_, hF⟩ := C.at_ k _ ho
  simp only [zZ, ho, Option.bind_some];rw [hF];by_cases hd : is[k].dst = some t
  ·rw [if_pos ⟨h k _ (by omega) ho hd, hd⟩, hd]
   simp only [Fr.put, Fr.bW, if_true]
  ·rw [if_neg (fun e => hd e.2), A4 C S t k (by omega) (fun j o hj => h j o (by omega))]
   cases X7 : is[k].dst with
   | none => rfl
   | some u =>
    simp only [Fr.put, Fr.bW];rw [if_neg];intro e; subst e; exact hd X7
theorem A5 (S : List Nat) (t : Nat) : ∀ d k, (∀ j o, k <= j -> j < k + d -> is[j]? = some o -> o.dst = some t -> j ∉ S) -> zZ is F V S t (k + d) = zZ is F V S t k
 | 0, k, _ => rfl
 | d + 1, k, h => by
  rw [<- Nat.add_assoc];simp only [zZ];rw [if_neg]
  ·exact A5 S t d k fun j o h1 h2 => h j o h1 (by omega)
  ·rintro ⟨h1, h2⟩
   cases ho : is[k + d]? with
   | none => rw [ho] at h2; cases h2
   | some o => rw [ho] at h2; exact h (k + d) o (by omega) (by omega) ho h2 h1
theorem GP {S S' : List Nat} (t : Nat) : ∀ k, (∀ j o, j < k -> is[j]? = some o -> o.dst = some t -> (j ∈ S ↔ j ∈ S')) -> zZ is F V S t k = zZ is F V S' t k
 | 0, _ => rfl
 | k + 1, h => by
  simp only [zZ];rw [GP t k fun j o hj => h j o (by omega)]
  cases ho : is[k]? with
  | none => simp
  | some o =>
   simp only [Option.bind_some];by_cases hd : o.dst = some t
   ·have := h k o (by omega) ho hd
    by_cases hk : k ∈ S
    ·rw [if_pos ⟨hk, hd⟩, if_pos ⟨this.1 hk, hd⟩]
    ·rw [if_neg (fun e => hk e.1), if_neg (fun e => hk (this.2 e.1))]
   ·rw [if_neg (fun e => hd e.2), if_neg (fun e => hd e.2)]
def gO (is : List ba) (B0 : Nat) (F : Nat -> Fr) (M : Nat -> Mem) (j : Nat) (B : fK) : Prop :=
 ∃ o op, is[j]? = some o /\ o.op = .val op /\ cW op = 1 /\ bh (F j) o.guard = some true /\ M (j + 1) = ⟨(M j).next, (M j).gH.set (B0 + j) B⟩
theorem Cl (m : Mem) (k : Nat) (B : fK) (b : Nat) : (⟨m.next, m.gH.set k B⟩ : Mem).get b = if b = k then B else m.get b := by
 unfold Mem.get; simp only [Tr.bW]; split <;> rfl
theorem gO.get {j : Nat} {B : fK} (h : gO is B0 F M j B) : (M (j + 1)).get (B0 + j) = B := by
 obtain ⟨_, _, _, _, _, _, h⟩ := h
 rw [h, Cl, if_pos rfl]
theorem gO.SA {j : Nat} {B B' : fK} (h : gO is B0 F M j B) (h' : gO is B0 F M j B') : B = B' := h.get.symm.trans h'.get
theorem gO.no {j : Nat} {B : fK} (h : gO is B0 F M j B) {o : ba} (ho : is[j]? = some o) (ha : nU o (F j)) : False := by
 obtain ⟨o', op, h1, h2, h3, _⟩ := h
 rw [ho] at h1; cases h1
 have := ha.2
 rw [h2] at this;simp only [sort] at this;omega
theorem La (C : Cx P G n call ops is chk B0 F M V) {k : Nat} {o : ba} (ho : is[k]? = some o) (Tm : ¬ nU o (F k)) : (M (k + 1) = M k /\ ∀ B, ¬ gO is B0 F M k B) \/ ∃ B, gO is B0 F M k B := by
 obtain ⟨PU, _⟩ := C.at_ k o ho
 cases PU with
 | skip hw _ hm => exact .inl ⟨hm, fun B ⟨o', op, h1, h2, h3, h4, _⟩ => by rw [ho] at h1; cases h1; rw [hw] at h4; cases h4⟩
 | pure op m1 hw lB hs _ hm => exact .inl ⟨hm, fun B ⟨o', ZJ, h1, h2, h3, h4, _⟩ => by rw [ho] at h1; cases h1; rw [lB] at h2; cases h2; omega⟩
 | load agg a hw lB _ hm => exact .inl ⟨hm, fun B ⟨o', ZJ, h1, h2, h3, h4, _⟩ => by rw [ho] at h1; cases h1; rw [lB] at h2; cases h2; simp [cW] at h3⟩
 | make op m1 hw lB hs h hm =>
  obtain ⟨B, mk, _, h2, _⟩ := En hs h
  exact .inr ⟨B, o, op, ho, lB, hs, hw, by rw [hm, h2]; rfl⟩
 | act op hw lB hs h => exact absurd ⟨hw, by rw [lB]; exact hs⟩ Tm
 | call f args hw lB h => exact absurd ⟨hw, by rw [lB]; simp [sort]⟩ Tm
theorem seg (C : Cx P G n call ops is chk B0 F M V) (K : Nat) : ∀ i, K <= i -> i <= is.length -> (∀ e o, K <= e -> e < i -> is[e]? = some o -> ¬ nU o (F e)) ->
  (M i).next = (M K).next /\ ∀ b, (∃ j B, K <= j /\ j < i /\ gO is B0 F M j B /\ b = B0 + j /\ (M i).get b = B) \/ ((∀ j B, K <= j -> j < i -> gO is B0 F M j B -> b ≠ B0 + j) /\ (M i).get b = (M K).get b) := by
 intro i
 induction i with
 | zero => intro h _ _; obtain rfl : K = 0 := (by omega); exact ⟨rfl, fun b => .inr ⟨fun j B h1 h2 => absurd h2 (by omega), rfl⟩⟩
 | succ i ih =>
  intro h1 h2 h3
  by_cases hK : K = i + 1
  ·subst hK; exact ⟨rfl, fun b => .inr ⟨fun j B h1 h2 => absurd h2 (by omega), rfl⟩⟩
  ·obtain ⟨hn, hb⟩ := ih (by omega) (by omega) (fun e o he WX => h3 e o he (by omega))
   have bn : i < is.length := by omega
   have ho : is[i]? = some is[i] := nc bn
   rcases La C ho (h3 i _ (by omega) (by omega) ho) with ⟨e, mE⟩ | ⟨B, hB⟩
   ·rw [e]
    refine ⟨hn, fun b => ?_⟩
    rcases hb b with ⟨j, B, q1, q2, q3, q4, q5⟩ | ⟨q1, q2⟩
    ·exact .inl ⟨j, B, q1, by omega, q3, q4, q5⟩
    ·refine .inr ⟨fun j B j1 j2 hj => ?_, q2⟩
     by_cases WU : j < i
     ·exact q1 j B j1 WU hj
     ·obtain rfl : j = i := by omega
      exact absurd hj (mE B)
   ·have Tx := hB
    obtain ⟨_, _, _, _, _, _, hM⟩ := Tx
    rw [hM];refine ⟨hn, fun b => ?_⟩
    rw [Cl];by_cases Zj : b = B0 + i
    ·exact .inl ⟨i, B, by omega, by omega, hB, Zj, by rw [if_pos Zj]⟩
    ·rw [if_neg Zj]
     rcases hb b with ⟨j, B', q1, q2, q3, q4, q5⟩ | ⟨q1, q2⟩
     ·exact .inl ⟨j, B', q1, by omega, q3, q4, q5⟩
     ·refine .inr ⟨fun j B' j1 j2 hj => ?_, q2⟩
      by_cases WU : j < i
      ·exact q1 j B' j1 WU hj
      ·obtain rfl : j = i := by omega
       exact Zj
structure Inv (n : Nat) (ops : Array Oper) (is : List ba) (B0 : Nat) (F : Nat -> Fr) (M : Nat -> Mem) (V : Nat -> EV) (base : Nat) (ρ0 : ev) (m0 : Mem) (w0 : World) (S : List Nat) (K : Nat) (ρ : ev) (Mm : Mem) (uC : Fr) (a : Act) (w : World) : Prop where
 b0 : m0.next = B0
 sub : ∀ i, i ∈ S -> i < is.length
 W8 : ∀ j, j ∈ S -> ∀ i, i ∈ (fu ops.toList []).getD j [] -> i ∈ S
 F6 : ∀ (e : Nat) (o : ba), is[e]? = some o -> nU o (F e) -> (e ∈ S ↔ e < K)
 last : K = 0 \/ ∃ e o, K = e + 1 /\ is[e]? = some o /\ nU o (F e)
 hR : R base ρ Mm w
 nx : Mm.next = (M K).next
 WB : B0 + is.length <= (M K).next
 RI : ∀ (j : Nat) (B : fK), gO is B0 F M j B -> j ∈ S -> K <= j -> Mm.get (B0 + j) = B
 Pj : ∀ b, (∀ (j : Nat) (B : fK), gO is B0 F M j B -> j ∈ S -> K <= j -> b ≠ B0 + j) -> Mm.get b = (M K).get b
 un : ∀ j, j < is.length -> ρ (B0 + j) ≠ none -> j ∈ S
 late : ∀ (j : Nat) (B : fK), gO is B0 F M j B -> j < K -> j ∉ S -> (M K).get (B0 + j) = B
 dd : ∀ j, K <= j -> j < is.length -> (M K).get (B0 + j) = .dead
 st : Step ρ0 m0 w0 ρ Mm w
 fr : BV ρ n uC a
 cur : ∀ t, uC.get t = zZ is F V S t is.length
 df : uC.defers = (F 0).defers
section
variable {base : Nat} {ρ0 ρ : ev} {m0 Mm : Mem} {w0 w : World} {S : List Nat} {K : Nat} {uC : Fr} {a : Act}
theorem Inv.kN (I : Inv n ops is B0 F M V base ρ0 m0 w0 S K ρ Mm uC a w) : K <= is.length := by
 rcases I.last with h | ⟨e, o, h, ho, _⟩
 ·omega
 ·have := (uz.1 ho).1; omega
theorem gO.lt {j : Nat} {B : fK} (h : gO is B0 F M j B) : j < is.length := by
 obtain ⟨o, _, ho, _⟩ := h
 exact (uz.1 ho).1
theorem Inv.wk (C : Cx P G n call ops is chk B0 F M V) (I : Inv n ops is B0 F M V base ρ0 m0 w0 S K ρ Mm uC a w) {i : Nat} (h1 : K <= i) (h2 : i <= is.length) (h3 : ∀ e o, K <= e -> e < i -> is[e]? = some o -> ¬ nU o (F e)) :
  (M i).next = (M K).next /\ (∀ b L, ρ b = some L -> (M i).get b = Mm.get b \/ (M i).get b = .dead) /\ (∀ b, (∀ j, j < is.length -> b ≠ B0 + j) -> (M i).get b = Mm.get b) /\
   (∀ j, i <= j -> j < is.length -> (M i).get (B0 + j) = .dead) /\ (∀ j B, gO is B0 F M j B -> j < i -> j ∉ S -> (M i).get (B0 + j) = B) := by
 obtain ⟨hn, hb⟩ := seg C K i h1 h2 h3
 refine ⟨hn, fun b L hL => ?_, fun b mE => ?_, fun j j1 j2 => ?_, fun j B hj j1 j2 => ?_⟩
 ·rcases hb b with ⟨j, B, q1, q2, q3, q4, q5⟩ | ⟨q1, q2⟩
  ·left
   rw [q5, q4];exact (I.RI j B q3 (I.un j q3.lt (by rw [<- q4, hL]; simp)) q1).symm
  ·by_cases hp : ∃ j B, gO is B0 F M j B /\ j ∈ S /\ K <= j /\ b = B0 + j
   ·obtain ⟨j, B, p1, p2, p3, p4⟩ := hp
    right
    rw [q2, p4];exact I.dd j p3 p1.lt
   ·left
    rw [q2];exact (I.Pj b fun j B p1 p2 p3 p4 => hp ⟨j, B, p1, p2, p3, p4⟩).symm
 ·rcases hb b with ⟨j, B, q1, q2, q3, q4, q5⟩ | ⟨q1, q2⟩
  ·exact absurd q4 (mE j q3.lt)
  ·rw [q2]
   exact (I.Pj b fun j B p1 _ _ => mE j p1.lt).symm
 ·rcases hb (B0 + j) with ⟨j', B, q1, q2, q3, q4, q5⟩ | ⟨q1, q2⟩
  ·omega
  ·rw [q2]; exact I.dd j (by omega) j2
 ·rcases hb (B0 + j) with ⟨j', B', q1, q2, q3, q4, q5⟩ | ⟨q1, q2⟩
  ·have : j = j' := by omega
   subst this;rw [q5]; exact q3.SA hj
  ·rw [q2]
   by_cases hjK : j < K
   ·exact I.late j B hj hjK j2
   ·exact absurd rfl (q1 j B (by omega) j1 hj)
theorem Inv.val (C : Cx P G n call ops is chk B0 F M V) (I : Inv n ops is B0 F M V base ρ0 m0 w0 S K ρ Mm uC a w) {i : Nat} {o : ba} (ho : is[i]? = some o) (hi : i ∉ S) (hb : ∀ j, j ∈ (fu ops.toList []).getD i [] -> j ∈ S) :
  ∀ t, t ∈ named o -> uC.get t = (F i).get t := by
 intro t ht
 have bn := (uz.1 ho).1
 rw [I.cur t, show is.length = i + (is.length - i) by omega, A5 S t _ i, A4 C S t i (by omega)]
 ·intro j q hj hq hd
  apply Gb
  intro LQ
  exact (C.open_ j i q o hj hq ho (fun h => LQ (hb j h))).2.1 t hd ht
 ·intro j q h1 h2 hq hd LQ
  by_cases e : j = i
  ·subst e; exact hi LQ
  ·exact (C.open_ i j o q (by omega) ho hq (fun h => hi (I.W8 j LQ i h))).2.2.1 t hd ht
theorem eval_eq {f g : Fr} {o : ba} (h : ∀ t, t ∈ named o -> f.get t = g.get t) : ∀ x, x ∈ oV o.op -> f.eval x = g.eval x := by
 intro x hx
 cases x with
 | const v => rfl
 | tmp t => exact h t (OS hx t rfl)
theorem IS {f g : Fr} {o : ba} (h : ∀ t, t ∈ named o -> f.get t = g.get t) : bh f o.guard = bh g o.guard := by
 cases hg : o.guard with
 | none => rfl
 | some p =>
  obtain ⟨t, b⟩ := p
  simp only [bh, h t (Jq hg)]
theorem Inv.Im (C : Cx P G n call ops is chk B0 F M V) (I : Inv n ops is B0 F M V base ρ0 m0 w0 S K ρ Mm uC a w) {i : Nat} {o : ba} (ho : is[i]? = some o) (hi : i ∉ S) :
  ∀ t, (uC.put o.dst (V i)).get t = zZ is F V (i :: S) t is.length := by
 intro t
 have bn := (uz.1 ho).1
 by_cases hd : o.dst = some t
 ·rw [hd, show is.length = (i + 1) + (is.length - (i + 1)) by omega, A5 (i :: S) t _ (i + 1)]
  ·simp only [zZ, ho, Option.bind_some]
   rw [if_pos ⟨by simp, hd⟩];simp only [Fr.put, Fr.bW, if_true]
  ·intro j q h1 h2 hq hdq hj
   rcases oU.1 hj with e | LQ
   ·omega
   ·exact (C.open_ i j o q (by omega) ho hq (fun h => hi (I.W8 j LQ i h))).2.1 t hd (OT hdq)
 ·have : (uC.put o.dst (V i)).get t = uC.get t := by
   cases X7 : o.dst with
   | none => rfl
   | some u =>
    simp only [Fr.put, Fr.bW];rw [if_neg];intro e; subst e; exact hd X7
  rw [this, I.cur t];refine GP t _ fun j q hj hq hdq => ?_
  constructor
  ·intro h; exact As _ h
  ·intro h
   rcases oU.1 h with e | h
   ·subst e; rw [ho] at hq; cases hq; exact absurd hdq hd
   ·exact h
theorem Inv.idle (C : Cx P G n call ops is chk B0 F M V) (I : Inv n ops is B0 F M V base ρ0 m0 w0 S K ρ Mm uC a w) {i : Nat} {o : ba} (ho : is[i]? = some o) (hi : i ∉ S) (hb : ∀ j, j ∈ (fu ops.toList []).getD i [] -> j ∈ S)
  (Tm : ¬ nU o (F i)) (JK : ∀ B, ¬ gO is B0 F M i B) {ρ1 : ev} {w1 : World} {a1 : Act} (lC : R base ρ1 Mm w1) (hs : Step ρ Mm w ρ1 Mm w1) (hF : BV ρ1 n (uC.put o.dst (V i)) a1) :
  Inv n ops is B0 F M V base ρ0 m0 w0 (i :: S) K ρ1 Mm (uC.put o.dst (V i)) a1 w1 := by
 have bn := (uz.1 ho).1
 refine ⟨I.b0, ?_, ?_, ?_, I.last, lC, I.nx, I.WB, ?_, ?_, ?_, ?_, I.dd, I.st.trans hs, hF, I.Im C ho hi, by rw [put_defers]; exact I.df⟩
 ·intro j hj
  rcases oU.1 hj with e | hj
  ·rw [e]; exact bn
  ·exact I.sub j hj
 ·intro j hj k hk
  rcases oU.1 hj with e | hj
  ·rw [e] at hk; exact As _ (hb k hk)
  ·exact As _ (I.W8 j hj k hk)
 ·intro e q hq hA
  rw [<- I.F6 e q hq hA]
  constructor
  ·intro h
   rcases oU.1 h with e1 | h
   ·subst e1; rw [ho] at hq; cases hq; exact absurd hA Tm
   ·exact h
  ·exact As _
 ·intro j B hj LQ hK
  rcases oU.1 LQ with e | h
  ·rw [e] at hj; exact absurd hj (JK B)
  ·exact I.RI j B hj h hK
 ·intro b mE
  exact I.Pj b fun j B h1 h2 h3 => mE j B h1 (As _ h2) h3
 ·intro j hj h1
  refine As _ (I.un j hj ?_)
  intro h0
  have := hs.new _ h0 h1
  have := I.nx; have := I.WB
  omega
 ·intro j B hj h1 h2
  exact I.late j B hj h1 fun h => h2 (As _ h)
theorem Inv.make (C : Cx P G n call ops is chk B0 F M V) (I : Inv n ops is B0 F M V base ρ0 m0 w0 S K ρ Mm uC a w) {i : Nat} {o : ba} (ho : is[i]? = some o) (hi : i ∉ S) (hb : ∀ j, j ∈ (fu ops.toList []).getD i [] -> j ∈ S)
  {B : fK} (hm : gO is B0 F M i B) {ρ1 : ev} {w1 : World} {a1 : Act} (hM : Made base ρ ⟨B0 + i, Mm.gH⟩ w ρ1 B w1) (hF : BV ρ1 n (uC.put o.dst (V i)) a1) :
  Inv n ops is B0 F M V base ρ0 m0 w0 (i :: S) K ρ1 ⟨Mm.next, Mm.gH.set (B0 + i) B⟩ (uC.put o.dst (V i)) a1 w1 := by
 have bn := (uz.1 ho).1
 obtain ⟨lC, hs⟩ := OY I.hR I.st (by have := I.b0; omega) (by have := I.nx; have := I.WB; omega) hM
 refine ⟨I.b0, ?_, ?_, ?_, I.last, lC, I.nx, I.WB, ?_, ?_, ?_, ?_, I.dd, hs, hF, I.Im C ho hi, by rw [put_defers]; exact I.df⟩
 ·intro j hj
  rcases oU.1 hj with e | hj
  ·rw [e]; exact bn
  ·exact I.sub j hj
 ·intro j hj k hk
  rcases oU.1 hj with e | hj
  ·rw [e] at hk; exact As _ (hb k hk)
  ·exact As _ (I.W8 j hj k hk)
 ·intro e q hq hA
  rw [<- I.F6 e q hq hA]
  constructor
  ·intro h
   rcases oU.1 h with e1 | h
   ·subst e1; exact (hm.no hq hA).elim
   ·exact h
  ·exact As _
 ·intro j B' hj LQ hK
  rw [Cl];by_cases e : j = i
  ·subst e; rw [if_pos rfl]; exact hm.SA hj
  ·rw [if_neg (by omega)]
   rcases oU.1 LQ with h | h
   ·exact absurd h e
   ·exact I.RI j B' hj h hK
 ·intro b mE
  rw [Cl];by_cases e : b = B0 + i
  ·rw [if_pos e]
   have hiK : i < K := by
    apply Gb
    intro h
    exact mE i B hm (by simp) (by omega) e
   rw [e];exact (I.late i B hm hiK hi).symm
  ·rw [if_neg e]
   exact I.Pj b fun j B h1 h2 h3 => mE j B h1 (As _ h2) h3
 ·intro j hj h1
  by_cases e : j = i
  ·rw [e]; simp
  ·refine As _ (I.un j hj ?_)
   rw [<- hM.YE (B0 + j) (show B0 + j ≠ B0 + i by omega)];exact h1
 ·intro j B' hj h1 h2
  exact I.late j B' hj h1 fun h => h2 (As _ h)
theorem Inv.next (C : Cx P G n call ops is chk B0 F M V) (I : Inv n ops is B0 F M V base ρ0 m0 w0 S K ρ Mm uC a w) {i : Nat} {o : ba} (ho : is[i]? = some o) (hi : i ∉ S) (hb : ∀ j, j ∈ (fu ops.toList []).getD i [] -> j ∈ S)
  (hA : nU o (F i)) : K <= i /\ ∀ e q, K <= e -> e < i -> is[e]? = some q -> ¬ nU q (F e) := by
 have Tv : K <= i := by
  apply Gb
  intro h
  exact hi ((I.F6 i o ho hA).2 (by omega))
 refine ⟨Tv, fun e q h1 h2 hq Nm => ?_⟩
 have UC : e ∈ S := by
  apply Gb
  intro UC
  have := (C.open_ e i q o h2 hq ho (fun h => UC (hb e h))).1
  exact this ⟨Nat.le_antisymm (Ci _) Nm.2, Nat.le_antisymm (Ci _) hA.2⟩
 have := (I.F6 e q hq Nm).1 UC
 omega
theorem Inv.text (C : Cx P G n call ops is chk B0 F M V) (I : Inv n ops is B0 F M V base ρ0 m0 w0 S K ρ Mm uC a w) {i : Nat} (h1 : K <= i) (h2 : i <= is.length) (h3 : ∀ e o, K <= e -> e < i -> is[e]? = some o -> ¬ nU o (F e)) :
  R base ρ (M i) w := by
 obtain ⟨k1, k2, k3, k4, k5⟩ := I.wk C h1 h2 h3
 refine I.hR.weaken (fun b L hb => ?_) k2 (fun b hb => ?_)
 ·rw [k1, <- I.nx]; exact I.hR.lt b L hb
 ·rw [k1] at hb
  rw [k3 b (fun j hj => by have := I.WB; omega)]
  exact I.hR.clean b (by rw [I.nx]; exact hb)
theorem Inv.act (C : Cx P G n call ops is chk B0 F M V) (I : Inv n ops is B0 F M V base ρ0 m0 w0 S K ρ Mm uC a w) {i : Nat} {o : ba} (ho : is[i]? = some o) (hi : i ∉ S) (hb : ∀ j, j ∈ (fu ops.toList []).getD i [] -> j ∈ S)
  (hA : nU o (F i)) {ρ1 : ev} {w1 : World} {a1 : Act} (lC : R base ρ1 (M (i + 1)) w1) (hs : Step ρ (M i) w ρ1 (M (i + 1)) w1) (hF : BV ρ1 n (uC.put o.dst (V i)) a1) :
  ∃ M2, Inv n ops is B0 F M V base ρ0 m0 w0 (i :: S) (i + 1) ρ1 M2 (uC.put o.dst (V i)) a1 w1 := by
 have bn := (uz.1 ho).1
 obtain ⟨Tv, mE⟩ := I.next C ho hi hb hA
 obtain ⟨k1, k2, k3, k4, k5⟩ := I.wk C Tv (Nat.le_of_lt bn) mE
 have Nl := I.b0
 have Fx := I.nx
 have afR := I.WB
 have JL := hs.next
 let l := (S.filter fun j => decide (i < j)).map fun j => B0 + j
 have hl : ∀ b, b ∈ l ↔ ∃ j, j ∈ S /\ i < j /\ b = B0 + j := by
  intro b
  simp only [l, List.mem_map, List.mem_filter, decide_eq_true_eq]
  constructor
  ·rintro ⟨j, ⟨h1, h2⟩, h3⟩; exact ⟨j, h1, h2, h3.symm⟩
  ·rintro ⟨j, h1, h2, h3⟩; exact ⟨j, ⟨h1, h2⟩, h3.symm⟩
 obtain ⟨M2, m1, m2⟩ := over (M (i + 1)) Mm.get l
 have Us : R base ρ1 M2 w1 /\ Step ρ0 m0 w0 ρ1 M2 w1 := by
  refine R8 l I.hR I.st lC hs (fun b IP => ?_) (fun b L hL _ => k2 b L hL) (fun b IP => ?_) (by omega) m1 m2
  ·obtain ⟨j, j1, j2, rfl⟩ := (hl b).1 IP
   have := I.sub j j1
   exact ⟨by omega, by omega, k4 j (by omega) this⟩
  ·exact k3 b fun j hj => by omega
 refine ⟨M2, I.b0, ?_, ?_, ?_, .inr ⟨i, o, rfl, ho, hA⟩, Us.1, m1, by omega, ?_, ?_, ?_, ?_, ?_, Us.2, hF, I.Im C ho hi, by rw [put_defers]; exact I.df⟩
 ·intro j hj
  rcases oU.1 hj with e | hj
  ·rw [e]; exact bn
  ·exact I.sub j hj
 ·intro j hj k hk
  rcases oU.1 hj with e | hj
  ·rw [e] at hk; exact As _ (hb k hk)
  ·exact As _ (I.W8 j hj k hk)
 ·intro e q hq Nm
  constructor
  ·intro h
   rcases oU.1 h with e1 | h
   ·omega
   ·have := (I.F6 e q hq Nm).1 h; omega
  ·intro h
   by_cases e1 : e = i
   ·rw [e1]; simp
   ·refine As _ ((I.F6 e q hq Nm).2 ?_)
    apply Gb
    intro h2
    exact mE e q (by omega) (by omega) hq Nm
 ·intro j B hj LQ hK
  rcases oU.1 LQ with e | h
  ·omega
  ·rw [m2, if_pos ((hl _).2 ⟨j, h, by omega, rfl⟩)]
   exact I.RI j B hj h (by omega)
 ·intro b abG
  rw [m2]
  split
  ·rename_i IP
   obtain ⟨j, j1, j2, rfl⟩ := (hl b).1 IP
   have Zg := I.sub j j1
   rw [hs.dead (B0 + j) (by omega) (k4 j (by omega) Zg), I.Pj (B0 + j) ?_]
   ·exact I.dd j (by omega) Zg
   ·intro j' B h1 h2 h3 h4
    have : j = j' := by omega
    subst this;exact abG j B h1 (As _ h2) (by omega) rfl
  ·rfl
 ·intro j hj h1
  refine As _ (I.un j hj ?_)
  intro h0
  have := hs.new _ h0 h1
  omega
 ·intro j B hj h1 h2
  have LQ : j ∉ S := fun h => h2 (As _ h)
  have WU : j ≠ i := fun e => h2 (by rw [e]; simp)
  have Zg := hj.lt
  have hρ : ρ (B0 + j) = none := by
   cases e : ρ (B0 + j) with
   | none => rfl
   | some L => exact absurd (I.un j Zg (by rw [e]; simp)) LQ
  rw [hs.same (B0 + j) (by omega) hρ];exact k5 j B hj (by omega) LQ
 ·intro j h1 h2
  exact hs.dead (B0 + j) (by omega) (k4 j (by omega) h2)
theorem Inv.load (C : Cx P G n call ops is chk B0 F M V) (I : Inv n ops is B0 F M V base ρ0 m0 w0 S K ρ Mm uC a w) {i : Nat} {o : ba} (ho : is[i]? = some o) (hi : i ∉ S) (hb : ∀ j, j ∈ (fu ops.toList []).getD i [] -> j ∈ S)
  {agg : Option Nat} {x : aW} (hL : Fm o (F i) agg x) (h : (M i).load agg ((F i).eval x) = some (V i)) {x' : Value} (hv : VR ρ ((F i).eval x) x') : Mm.load agg ((F i).eval x) = some (V i) := by
 have bn := (uz.1 ho).1
 have Rj : sort o.op = 2 := by rw [hL.2.1]; rfl
 -- a place in the ZB order from Xa no act parts us
 have hex : ∃ k, K <= k /\ k <= is.length /\ (∀ e q, K <= e -> e < k -> is[e]? = some q -> ¬ nU q (F e)) /\ (M k).load agg ((F i).eval x) = some (V i) := by
  by_cases Tv : K <= i
  ·by_cases RB : ∃ e, K <= e /\ e < i /\ ∃ q, is[e]? = some q /\ nU q (F e)
   ·-- the first of ae2
    obtain ⟨e, ⟨Zh, WX, q, hq, Nm⟩, abM⟩ : ∃ e, (K <= e /\ e < i /\ ∃ q, is[e]? = some q /\ nU q (F e)) /\ ∀ e', e' < e -> ¬ (K <= e' /\ e' < i /\ ∃ q, is[e']? = some q /\ nU q (F e')) := by
     obtain ⟨e, he⟩ := RB
     induction e using Nat.strongRecOn with
     | _ e ih =>
      by_cases h : ∃ e', e' < e /\ (K <= e' /\ e' < i /\ ∃ q, is[e']? = some q /\ nU q (F e'))
      ·obtain ⟨e', h1, h2⟩ := h; exact ih e' h1 h2
      ·exact ⟨e, he, fun e' h1 h2 => h ⟨e', h1, h2⟩⟩
    have UC : e ∉ S := fun hh => by have := (I.F6 e q hq Nm).1 hh; omega
    have hp := (C.open_ e i q o WX hq ho (fun hh => UC (hb e hh))).2.2.2.2 (Nat.le_antisymm (Ci _) Nm.2) Rj
    have := (C.c1 i o agg x e q ho hq hL Nm hp).1 WX
    exact ⟨e, Zh, by omega, fun e' q' h1 h2 GC hA' => abM e' h2 ⟨h1, by omega, q', GC, hA'⟩, Gf this⟩
   ·exact ⟨i, Tv, by omega, fun e q h1 h2 hq hA => RB ⟨e, h1, h2, q, hq, hA⟩, h⟩
  ·rcases I.last with h0 | ⟨e, q, hK, hq, Nm⟩
   ·omega
   ·have UC : e ∈ S := (I.F6 e q hq Nm).2 (by omega)
    have hie : i ≠ e := fun h => hi (h ▸ UC)
    have hp := (C.open_ i e o q (by omega) ho hq (fun hh => hi (I.W8 e UC i hh))).2.2.2.1 Rj (Nat.le_antisymm (Ci _) Nm.2)
    have := (C.c1 i o agg x e q ho hq hL Nm hp).2 (by omega)
    refine ⟨K, fy _, I.kN, fun e' q' h1 h2 => absurd h2 (by omega), ?_⟩
    rw [hK]; exact Gf this
 obtain ⟨k, h1, h2, h3, h4⟩ := hex
 obtain ⟨_, k2, _, _, _⟩ := I.wk C h1 h2 h3
 obtain ⟨b, off, hx, hd⟩ := QX hL.2.2 h4
 rw [hx] at hv h4 ⊢
 cases hv with
 | ptr hL =>
 rcases k2 b _ hL with e | e
 ·rw [<- QZ e]; exact h4
 ·exact absurd e hd
theorem YD (bD : pG P G call) (C : Cx P G n call ops is chk B0 F M V) (hG : jr G ρ0) : ∀ (l S : List Nat) (K : Nat) (ρ : ev) (Mm : Mem) (uC : Fr) (a : Act) (w : World), Inv n ops is B0 F M V base ρ0 m0 w0 S K ρ Mm uC a w ->
  (∀ (k i : Nat), l[k]? = some i -> i < is.length /\ i ∉ S /\ i ∉ l.take k /\ ∀ b, b ∈ (fu ops.toList []).getD i [] -> b ∈ S \/ b ∈ l.take k) -> (∀ i, i < is.length -> i ∈ S \/ i ∈ l) ->
  wpOps P ops (Reach base n ρ0 m0 w0 (.norm (F is.length) (M is.length))) l a w := by
 intro l
 induction l with
 | nil =>
  intro S K ρ Mm uC a w I hl hall
  have hS : ∀ i, i < is.length -> i ∈ S := fun i hi => by rcases hall i hi with h | h; exact h; cases h
  obtain ⟨k1, k2, k3, k4, k5⟩ := I.wk C I.kN (fy _) (fun e q h1 h2 hq hA => by have := (I.F6 e q hq hA).1 (hS e h2); omega)
  obtain ⟨_, hb⟩ := seg C K is.length I.kN (fy _) (fun e q h1 h2 hq hA => by have := (I.F6 e q hq hA).1 (hS e h2); omega)
  have hg : ∀ b, (M is.length).get b = Mm.get b := by
   intro b
   rcases hb b with ⟨j, B, q1, q2, q3, q4, q5⟩ | ⟨q1, q2⟩
   ·rw [q5, q4]; exact (I.RI j B q3 (hS j q2) q1).symm
   ·rw [q2]; exact (I.Pj b fun j B p1 p2 p3 p4 => q1 j B p3 p1.lt p1 p4).symm
  have Fx : (M is.length).next = Mm.next := by rw [k1, I.nx]
  have VZ : ∀ k, k <= is.length -> (F k).defers = (F 0).defers := by
   intro k
   induction k with
   | zero => intro _; rfl
   | succ k ih =>
    intro hk
    have bn : k < is.length := by omega
    obtain ⟨_, hF⟩ := C.at_ k is[k] (nc bn)
    rw [hF, put_defers]; exact ih (by omega)
  refine ⟨rfl, ρ, I.hR.congr Fx hg, I.st.congr Fx hg, ⟨⟨I.fr.tm.size, fun t => ?_⟩, ?_⟩⟩
  ·have := I.fr.tm.tmp t
   rw [I.cur t, A4 C S t is.length (fy _) (fun j o hj _ _ => hS j hj)] at this;exact this
  ·rw [VZ _ (fy _), <- I.df]; exact I.fr.F2
 | cons i l ih =>
  intro S K ρ Mm uC a w I hl hall
  obtain ⟨bn, hi, _, hb⟩ := hl 0 i rfl
  have hb : ∀ j, j ∈ (fu ops.toList []).getD i [] -> j ∈ S := fun j hj => by
   rcases hb j hj with h | h
   ·exact h
   ·simp at h
  have BO : is[i]? = some is[i] := nc bn
  generalize is[i] = io at BO
  have next : ∀ {K1 : Nat} {ρ1 : ev} {M1 : Mem} {fX : Fr} {a1 : Act} {w1 : World}, Inv n ops is B0 F M V base ρ0 m0 w0 (i :: S) K1 ρ1 M1 fX a1 w1 -> wpOps P ops (Reach base n ρ0 m0 w0 (.norm (F is.length) (M is.length))) l a1 w1 := by
   intro K1 ρ1 M1 fX a1 w1 I1
   refine ih (i :: S) K1 ρ1 M1 fX a1 w1 I1 (fun k j hj => ?_) (fun j hj => ?_)
   ·obtain ⟨g1, g2, g3, g4⟩ := hl (k + 1) j (by simpa using hj)
    rw [List.take_succ_cons] at g3 g4;refine ⟨g1, ?_, fun h => g3 (As _ h), fun b hb => ?_⟩
    ·intro h
     rcases oU.1 h with e | h
     ·exact g3 (by rw [e]; simp)
     ·exact g2 h
    ·rcases g4 b hb with h | h
     ·exact .inl (As _ h)
     ·rcases oU.1 h with e | h
      ·exact .inl (by rw [e]; simp)
      ·exact .inr h
   ·rcases hall j hj with h | h
    ·exact .inl (As _ h)
    ·rcases oU.1 h with e | h
     ·exact .inl (by rw [e]; simp)
     ·exact .inr h
  obtain ⟨o, ho, hc⟩ := C.comp i io BO
  obtain ⟨hx, nB, AT, nR⟩ := Kk hc
  obtain ⟨PU, _⟩ := C.at_ i io BO
  have hval := I.val C BO hi hb
  have rP := eval_eq hval
  have WM := IS hval
  have WZ := hG.ext I.st.ext
  simp only [wpOps, ho]
  -- one Ot looks at the memory eQ it is
  have still : ∀ {op : lD}, io.op = .val op -> ¬ nU io (F i) -> (∀ B, ¬ gO is B0 F M i B) -> aB uC.eval op Mm = some (.val (V i) Mm) ->
    o.wp P a w (wpOps P ops (Reach base n ρ0 m0 w0 (.norm (F is.length) (M is.length))) l) (Reach base n ρ0 m0 w0 (.norm (F is.length) (M is.length))) := by
   intro op lB Tm JK he
   rw [lB] at hx;obtain ⟨ρ1, w1, v', j0, hv, lC, hs⟩ := Eh (vo hx) WZ I.hR I.fr.tm he
   have hF := (I.fr.ext hs.ext).put AT hv
   rw [<- nB] at hF;have := next (I.idle C BO hi hb Tm JK lC hs hF)
   simp only [Oper.wp];rw [nB] at this;rcases j0 with j0 | ⟨j0, rfl⟩
   ·rw [j0]; exact this
   ·rw [j0]; exact this
  cases PU with
  | skip hw hv hm =>
   rw [mq I.fr.tm nR (WM.trans hw), if_neg (by simp)];have hF := I.fr.put AT (VR.undef (ρ := ρ))
   rw [<- hv, <- nB] at hF;have := next (I.idle C BO hi hb (fun hA => by have := hA.1; rw [hw] at this; cases this) (fun B ⟨o', op, h1, h2, h3, h4, _⟩ => by rw [BO] at h1; cases h1; rw [hw] at h4; cases h4) I.hR (.refl _ _ _) hF)
   rw [nB] at this;exact this
  | pure op m1 hw lB hs h hm =>
   rw [mq I.fr.tm nR (WM.trans hw), if_pos rfl]
   left
   refine still lB (fun hA => by have := hA.2; rw [lB] at this; simp only [sort] at this; omega) (fun B ⟨o', ZJ, h1, h2, h3, h4, _⟩ => by rw [BO] at h1; cases h1; rw [lB] at h2; cases h2; omega) ?_
   rw [xU (g := (F i).eval) (fun x Tc => rP x (by rw [lB]; exact Tc))]
   exact (Ja hs h).2 Mm
  | load agg x hw lB h hm =>
   rw [mq I.fr.tm nR (WM.trans hw), if_pos rfl]
   left
   refine still lB (fun hA => by have := hA.2; rw [lB] at this; simp [sort, cW] at this) (fun B ⟨o', ZJ, h1, h2, h3, h4, _⟩ => by rw [BO] at h1; cases h1; rw [lB] at h2; cases h2; simp [cW] at h3) ?_
   have XF : uC.eval x = (F i).eval x := rP x (by rw [lB]; simp [oV, iA])
   rw [lB] at hx;have uf : ∃ x', VR ρ (uC.eval x) x' := by
    cases x with
    | tmp t => exact ⟨_, I.fr.tm.tmp t⟩
    | const v =>
     obtain ⟨YQ, x1, x0, q1, q2⟩ := QY (vo hx) rfl
     cases q1
     exact ⟨_, ia WZ I.fr.tm q2⟩
   obtain ⟨x', Nc⟩ := uf
   rw [XF] at Nc
   have := I.load C BO hi hb ⟨hw, lB, by generalize (F i).eval x = y at Nc; cases Nc <;> rfl⟩ h Nc
   simp only [aB, XF, this, gx, Option.map_some]
  | make op m1 hw lB hs h hm =>
   rw [mq I.fr.tm nR (WM.trans hw), if_pos rfl]
   left
   rw [lB] at hx;obtain ⟨B, mk, e1, e2, e3⟩ := En hs h
   have hmk : gO is B0 F M i B := ⟨io, op, BO, lB, hs, hw, by rw [hm, e2]; rfl⟩
   have he : aB uC.eval op ⟨B0 + i, Mm.gH⟩ = some (.val (V i) ((⟨B0 + i, Mm.gH⟩ : Mem).new B)) := by
    rw [xU (g := (F i).eval) (fun x Tc => rP x (by rw [lB]; exact Tc)), e3, e1]
   have hRN : RN base ρ ⟨B0 + i, Mm.gH⟩ w := by
    refine ⟨?_, I.hR.de, I.hR.inj, I.hR.base⟩
    apply Gb
    intro e
    exact hi (I.un i bn e)
   obtain ⟨B', Tx, ρ1, w1, v', j0, hv, hM⟩ := Lw (vo hx) hs WZ hRN I.fr.tm he
   have : B' = B := by
    have h1 := congrArg (fun m : Mem => m.get (B0 + i)) Tx
    simp only [Mem.fq, if_true] at h1;exact h1.symm
   subst this;have hF := (I.fr.ext hM.ext).put AT hv
   rw [<- nB] at hF;have := next (I.make C BO hi hb hmk hM hF)
   rw [nB] at this;simp only [Oper.wp];rw [j0]; exact this
  | act op hw lB hs h =>
   rw [mq I.fr.tm nR (WM.trans hw), if_pos rfl]
   left
   rw [lB] at hx;have hA : nU io (F i) := ⟨hw, by rw [lB]; exact hs⟩
   obtain ⟨Tv, mE⟩ := I.next C BO hi hb hA
   have Zk := I.text C Tv (Nat.le_of_lt bn) mE
   rw [<- xU (f := uC.eval) (fun x Tc => rP x (by rw [lB]; exact Tc))] at h
   obtain ⟨ρ1, w1, v', j0, hv, lC, eo⟩ := Eh (vo hx) WZ Zk I.fr.tm h
   have hF := (I.fr.ext eo.ext).put AT hv
   rw [<- nB] at hF;obtain ⟨M2, I2⟩ := I.act C BO hi hb hA lC eo hF
   have := next I2
   rw [nB] at this;simp only [Oper.wp];rcases j0 with j0 | ⟨j0, rfl⟩
   ·rw [j0]; exact this
   ·rw [j0]; exact this
  | call f args hw lB h =>
   rw [mq I.fr.tm nR (WM.trans hw), if_pos rfl]
   left
   rw [lB] at hx;have hA : nU io (F i) := ⟨hw, by rw [lB]; simp [sort]⟩
   obtain ⟨Tv, mE⟩ := I.next C BO hi hb hA
   have Zk := I.text C Tv (Nat.le_of_lt bn) mE
   obtain ⟨f0, Wr, ts0, Rr, hf, Rh⟩ := GU hx
   have ji : uC.eval f = (F i).eval f := rP f (by rw [lB]; simp [oV])
   have hae : args.map uC.eval = args.map (F i).eval := ph fun x Tc => rP x (by rw [lB]; simp [oV, Tc])
   rw [<- ji, <- hae] at h
   cases JN : uC.eval f <;> simp only [JN, fP, reduceCtorEq] at h
   rename_i g x y
   obtain ⟨ay, j0, hv⟩ := MN (w := w) (P := P) Rr hf Rh WZ I.fr.tm JN
   simp only [Oper.wp];rw [j0];rcases bD _ _ _ _ h base ρ w ay Zk WZ hv with ⟨h1, h2⟩ | ⟨v, v', e, h1, h2⟩
   ·rw [h1]
    simp only [Oper.upon];refine h2.mono fun e w' hp => ?_
    obtain ⟨ρ1, v', rfl, zi, lC, eo⟩ := hp
    have hF := (I.fr.ext eo.ext).put AT zi
    rw [<- nB] at hF;obtain ⟨M2, I2⟩ := I.act C BO hi hb hA lC eo hF
    have := next I2
    rw [nB] at this;exact this
   ·rw [h1]
    simp only [Oper.upon];simp only [Fin.ret.injEq] at e;obtain ⟨rfl, e⟩ := e
    have hF := I.fr.put AT h2
    rw [<- nB] at hF;obtain ⟨M2, I2⟩ := I.act C BO hi hb hA (by rw [e]; exact Zk) (by rw [e]; exact .refl _ _ _) hF
    have := next I2
    rw [nB] at this;exact this
end
theorem xQ {i j : Nat} : ∀ {l : List (Nat × Nat)}, (i, j) ∈ l -> bV i j l = true
 | [], h => by cases h
 | (a, b) :: l, h => by
  simp only [bV];rcases oU.1 h with e | h
  ·cases e
   simp
  ·have := xQ h
   cases h1 : a.beq i <;> simp only [cond_true, cond_false]
   ·exact this
   ·cases h2 : b.beq j <;> simp only [cond_true, cond_false]
    ·exact this
theorem OH {n i j : Nat} (h : i < j) (hj : j < n) : (i, j) ∈ MK n := by
 unfold MK;refine List.mem_flatMap.2 ⟨j, by simpa using hj, List.mem_map.2 ⟨i, by simpa using h, rfl⟩⟩
theorem xL {acc : List (List Nat)} {BT : List Nat} (h : ∀ k i, (BT.getD k 0).testBit i = true -> i ∈ acc.getD k []) : ∀ (es : List Edge) (i : Nat), (AL BT es).testBit i = true ->
  i ∈ (es.filter fL).flatMap fun e => e.on :: acc.getD e.on []
 | [], i, hi => by simp [AL] at hi
 | e :: es, i, hi => by
  simp only [AL] at hi
  cases hp : fL e with
  | false =>
   simp only [hp, cond_false] at hi;rw [List.filter_cons, hp];exact xL h es i hi
  | true =>
   simp only [hp, cond_true, Nat.testBit_or, Bool.or_eq_true, Nat.testBit_two_pow, decide_eq_true_eq] at hi;rw [List.filter_cons, hp];simp only [if_true, List.flatMap_cons, yb, oU];rcases hi with (hi | hi) | hi
   ·exact .inl (.inl hi.symm)
   ·exact .inl (.inr (h _ _ hi))
   ·exact .inr (xL h es i hi)
theorem Gv : ∀ (l : List Oper) (acc : List (List Nat)) (BT : List Nat), BT.length = acc.length -> (∀ k i, (BT.getD k 0).testBit i = true -> i ∈ acc.getD k []) ->
  ∀ k i, ((Jv l BT).getD k 0).testBit i = true -> i ∈ (fu l acc).getD k []
 | [], _, _, _, h => h
 | o :: l, acc, BT, hl, h => by
  refine Gv l _ _ (by simp [hl]) fun k i hi => ?_
  by_cases hk : k < BT.length
  ·rw [List.getD_eq_getElem?_getD, BC hk, <- List.getD_eq_getElem?_getD] at hi
   rw [List.getD_eq_getElem?_getD, BC (by omega), <- List.getD_eq_getElem?_getD];exact h k i hi
  ·rw [List.getD_eq_getElem?_getD, FA (by omega)] at hi
   rw [List.getD_eq_getElem?_getD, FA (by omega)];rw [hl] at hi
   cases hx : k - acc.length with
   | zero =>
    rw [hx] at hi;simp only [List.getElem?_cons_zero, Option.getD_some] at hi ⊢
    exact xL h _ i hi
   | succ x => rw [hx] at hi; simp at hi
theorem Ih {l : List Oper} {is : List ba} {chk : List (Nat × Nat)} (h : sb l is = some chk) : u6 l 0 = true /\
  ∀ (i j : Nat) (io jo : ba), i < j -> is[i]? = some io -> is[j]? = some jo -> i ∉ (fu l []).getD j [] ->
   ¬ (sort io.op = 3 /\ sort jo.op = 3) /\ (∀ t, io.dst = some t -> t ∉ named jo) /\ (∀ t, jo.dst = some t -> t ∉ named io) /\ (sort io.op = 2 -> sort jo.op = 3 -> bV i j chk = true) /\ (sort io.op = 3 -> sort jo.op = 2 -> bV j i chk = true) := by
 unfold sb at h;simp only [Bool.cond_eq_ite] at h
 split at h
 ·rename_i hq
  simp only [pI] at hq;obtain ⟨h1, h2⟩ := hq
  refine ⟨h1, fun i j io jo UB BO Ze mE => ?_⟩
  have hm : (i, j) ∈ (MK is.length).filter fun (p : Nat × Nat) => !((Jv l []).getD p.2 0).testBit p.1 := by
   refine List.mem_filter.2 ⟨OH UB (uz.1 Ze).1, ?_⟩
   cases hb : ((Jv l []).getD j 0).testBit i with
   | false => simp only [hb, Bool.not_false]
   | true => exact absurd (Gv l [] [] rfl (fun k i h => by simp at h) j i hb) mE
  have h3 := List.all_eq_true.1 h2 (i, j) hm
  simp only [BO, Ze, Option.map_some, Option.getD_some, Option.bind_some, pI] at h3;obtain ⟨⟨h4, h5⟩, h6⟩ := h3
  simp only [bf] at h;refine ⟨fun ⟨a, b⟩ => by rw [a, b] at h4; simp at h4, fun t ht => ?_, fun t ht => ?_, fun a b => ?_, fun a b => ?_⟩
  ·rw [ht] at h5; simpa using h5
  ·rw [ht] at h6; simpa using h6
  ·rw [<- h]
   refine xQ (List.mem_flatMap.2 ⟨(i, j), hm, ?_⟩)
   simp [BO, Ze, a, b]
  ·rw [<- h]
   refine xQ (List.mem_flatMap.2 ⟨(i, j), hm, ?_⟩)
   simp [BO, Ze, a, b]
 ·cases h
theorem L3 (il : P.follows .mixedOrders = true) (bD : pG P G call) {base id : Nat} {ops : Array Oper} {is : List ba} {chk : List (Nat × Nat)} (Tq : ops.toList.mapM (ul P G n ops) = some is)
  (V2 : sb ops.toList is = some chk) {ρ : ev} {m : Mem} {w : World} {fr : Fr} {a : Act} {out : Out} (hR : R base ρ m w) (hG : jr G ρ) (hF : BV ρ n fr a)
  (h : dL call chk m.next is 0 fr ⟨m.next + is.length, m.gH⟩ [] [] = some out) : (Code.region id ops true).wp P (Reach base n ρ m w out) a w := by
 obtain ⟨zm, XV⟩ := Ih V2
 obtain ⟨hlen, X9⟩ := mapM_some _ Tq
 have hlen : ops.size = is.length := by simpa using hlen
 obtain ⟨F, M, V, f0, m0, EE, Ya⟩ := R4 is 0 fr _ [] [] out h
 simp only [Nat.zero_add] at EE;subst EE;have C : Cx P G n call ops is chk m.next F M V := by
  refine ⟨fun i io hi => ?_, fun k o hk => by simpa using Ya.at_ k o hk, fun k o agg x l q hk hl hL hA hp => ?_, XV⟩
  ·have bn : i < ops.size := by have := (uz.1 hi).1; omega
   exact ⟨ops[i], Array.getElem?_eq_getElem bn, X9 i ops[i] io (by simp [bn]) hi⟩
  ·have := Ya.c1 k o agg x l q hk hl (by simpa using hL) (by simpa using hA) (by simpa using hp)
   simpa using this
 refine wp_region_draw fun t => ?_
 have q : Fi w { w with drawn := w.drawn + 1 } := ⟨rfl, rfl, rfl, rfl⟩
 generalize { w with drawn := w.drawn + 1 } = w1 at q
 have hl := Hi il ops zm t
 have IP := F5 zm hl
 generalize Region.schedule (P.follows .mixedOrders) ops t = l at hl IP
 have lC := hR.quiet q
 have eo : Step ρ m w ρ m w1 := .quiet q
 have lQ : ∀ b, (M 0).get b = m.get b := fun b => by rw [m0]; rfl
 have JL : (M 0).next = m.next + is.length := by rw [m0]
 have hR2 : R base ρ (M 0) w1 := ⟨fun b L hb => by rw [JL]; have := lC.lt b L hb; omega, fun b L hb => by rw [lQ]; exact lC.de b L hb,
  fun b c L L' h1 h2 h3 h4 => lC.inj b c L L' h1 h2 (by unfold Live at *; rwa [lQ] at h3) (by unfold Live at *; rwa [lQ] at h4), lC.base, fun b hb => by rw [lQ]; exact lC.clean b (by rw [JL] at hb; omega)⟩
 have aby : Step ρ m w ρ (M 0) w1 := ⟨eo.ext, eo.new, by rw [JL]; omega, fun b hb hn => by rw [lQ], fun b hb hd => by rw [lQ]; exact hd, eo.size,
  fun i hi ⟨b, L, h1, h2, h3, h4⟩ => ⟨b, L, h1, by unfold Live at *; rwa [lQ] at h2, h3, h4⟩, eo.kept, eo.os, eo.tape, eo.output⟩
 have X8 : ∀ t, ∀ k, zZ is F V [] t k = (F 0).get t := by
  intro t k
  induction k with
  | zero => rfl
  | succ k ih => simp only [zZ]; rw [if_neg (by simp)]; exact ih
 have I : Inv n ops is m.next F M V base ρ m w [] 0 ρ (M 0) fr a w1 := by
  refine ⟨rfl, by simp, by simp, by simp, .inl rfl, hR2, rfl, by rw [JL]; omega, by simp, fun b _ => rfl, fun j _ hj => ?_, fun j B _ h => absurd h (by omega), fun j _ _ => ?_, aby, hF, fun t => by rw [X8, f0], by rw [f0]⟩
  ·exfalso
   apply hj
   cases e : ρ (m.next + j) with
   | none => rfl
   | some L => have := hR.lt _ _ e; omega
  ·rw [lQ]; exact hR.clean _ (by omega)
 refine YD bD C hG l [] 0 ρ (M 0) fr a w1 I (fun k i hk => ?_) (fun i hi => .inr ((hl.all i).2 (by omega)))
 refine ⟨by have := (hl.all i).1 (List.mem_of_getElem? hk); omega, by simp, ?_, fun b hb => .inr (IP i k hk b hb)⟩
 intro EG
 obtain ⟨k', oP⟩ := List.mem_iff_getElem?.1 EG
 have bn : k' < k := by have := (uz.1 oP).1; simp at this; omega
 rw [List.getElem?_take, if_pos bn] at oP
 have h1 := uz.1 hk
 have h2 := uz.1 oP
 obtain ⟨g1, e1⟩ := h1
 obtain ⟨g2, e2⟩ := h2
 exact List.pairwise_iff_getElem.1 hl.nodup k' k g2 g1 bn (by rw [e1, e2])
end
end
section
section
variable {P : Program} {G : List Nat} {n : Nat} {call : Call}
theorem xz.Lk {ρ : ev} {ds : List Deferred} (h : xz ρ [] ds) : ds = [] := by cases h; rfl
theorem G6 {Q : Exit -> Act -> World -> Prop} {a : Act} {w : World} {c : Code} (I : Nat -> Act -> World -> Prop) (j : Nat) (h₀ : I j a w)
  (round : ∀ j a w, I j a w -> c.wp P (Exit.then (fun a' w' => ∃ i, i < j /\ I i a' w') Q) a w) : (Code.loop c).wp P Q a w := by
 intro b k cs
 have key : ∀ j a w, I j a w -> ∃ e a' w', Q e a' w' /\ Arrives P (lone (b.at a (.code c :: .inLoop c :: k)) cs w) b k cs e a' w' := by
  intro j
  induction j using Nat.strongRecOn with
  | _ j ih =>
   intro a w hI
   obtain ⟨e, a₁, w₁, hq, rQ⟩ := round j a w hI b (.inLoop c :: k) cs
   cases e with
   | normal =>
    obtain ⟨i, bn, hI₁⟩ := hq
    obtain ⟨e₂, a₂, w₂, hq₂, Yf⟩ := ih i bn a₁ w₁ hI₁
    exact ⟨e₂, a₂, w₂, hq₂, .of_steps (Steps.trans rQ (.one step_inLoop)) Yf⟩
   | exit id => exact ⟨_, a₁, w₁, hq, .pass (x := .inLoop c) rfl (fun _ _ => .inl (by simp)) rQ⟩
   | goto l => exact ⟨_, a₁, w₁, hq, .pass (x := .inLoop c) rfl (fun _ _ => .inl (by simp)) rQ⟩
   | ret => exact ⟨_, a₁, w₁, hq, .pass (x := .inLoop c) rfl (fun _ _ => .inl (by simp)) rQ⟩
   | panic ch => exact ⟨_, a₁, w₁, hq, .pass (x := .inLoop c) rfl (fun _ _ => .inl (by simp)) rQ⟩
   | outgrown => exact ⟨_, a₁, w₁, hq, .pass (x := .inLoop c) rfl (fun _ _ => .inl (by simp)) rQ⟩
 obtain ⟨e, a', w', hq, rQ⟩ := key j a w h₀
 exact ⟨e, a', w', hq, .of_steps (.one step_loop) rQ⟩
theorem hZ (il : P.follows .mixedOrders = true) (bD : pG P G call) (k : Nat) {base : Nat} : ∀ (c : Code) (ic : aE), gi P G n c = some ic ->
  ∀ (ρ : ev) (m : Mem) (w : World) (fr : Fr) (a : Act) (out : Out), R base ρ m w -> jr G ρ -> BV ρ n fr a -> ap call k ic fr m = some out -> c.wp P (Reach base n ρ m w out) a w
 | .skip, ic, hc, ρ, m, w, fr, a, out, hR, hG, hF, h => by
  simp only [gi, bf] at hc; subst hc
  simp only [ap, bf] at h; subst h
  exact wp_skip ⟨rfl, ρ, hR, .refl _ _ _, hF⟩
 | .label l, ic, hc, ρ, m, w, fr, a, out, hR, hG, hF, h => by
  simp only [gi, bf] at hc; subst hc
  simp only [ap, bf] at h; subst h
  exact wp_label ⟨rfl, ρ, hR, .refl _ _ _, hF⟩
 | .exit id, ic, hc, ρ, m, w, fr, a, out, hR, hG, hF, h => by
  simp only [gi, bf] at hc; subst hc
  simp only [ap, bf] at h; subst h
  exact wp_exit ⟨rfl, ρ, hR, .refl _ _ _, hF⟩
 | .ret, ic, hc, ρ, m, w, fr, a, out, hR, hG, hF, h => by
  simp only [gi, bf] at hc; subst hc
  simp only [ap, bf] at h; subst h
  exact wp_ret ⟨rfl, ρ, hR, .refl _ _ _, hF⟩
 | .region id ops false, ic, hc, ρ, m, w, fr, a, out, hR, hG, hF, h => by
  simp only [gi] at hc;obtain ⟨is, Tq, rfl⟩ := ag hc
  simp only [ap] at h;refine wp_region ?_
  obtain ⟨h1, h2⟩ := mapM_some _ Tq
  refine Gm bD is (List.range ops.size) (by simpa using h1.symm) (fun j i io hj BO => ?_) ρ m w fr a out hR hG hF h
  have bn : j < ops.size := by
   have := (uz.1 hj).1
   simpa using this
  rw [List.getElem?_range bn] at hj
  cases hj
  exact ⟨ops[j], Array.getElem?_eq_getElem bn, h2 j ops[j] io (by simp [bn]) BO⟩
 | .region id ops true, ic, hc, ρ, m, w, fr, a, out, hR, hG, hF, h => by
  simp only [gi] at hc
  cases Tq : ops.toList.mapM (ul P G n ops) with
  | none => simp [Tq] at hc
  | some is =>
   simp only [Tq] at hc;obtain ⟨chk, V2, rfl⟩ := ag hc
   simp only [ap] at h;exact L3 il bD Tq V2 hR hG hF h
 | .seq x y, ic, hc, ρ, m, w, fr, a, out, hR, hG, hF, h => by
  simp only [gi] at hc
  cases hx : gi P G n x with
  | none => simp [hx] at hc
  | some ix =>
  cases hy : gi P G n y with
  | none => simp [hx, hy] at hc
  | some iy =>
  simp only [hx, hy, bf] at hc;subst hc;simp only [ap] at h
  cases h1 : ap call k ix fr m with
  | none => simp [h1] at h
  | some o1 =>
   simp only [h1] at h;have hw := hZ il bD k x ix hx ρ m w fr a o1 hR hG hF h1
   refine wp_seq (wp_mono hw fun e a1 w1 hq => ?_)
   cases o1 with
   | norm fX m1 =>
    obtain ⟨rfl, ρ1, lC, hs, wE⟩ := hq
    simp only [Exit.then];have := hZ il bD k y iy hy ρ1 m1 w1 fX a1 out lC (hG.ext hs.ext) wE h
    exact wp_mono this fun e a w hq => hq.after hs
   | exit id fX m1 =>
    simp only [bf] at h; subst h
    have := hq; obtain ⟨rfl, _⟩ := this; exact hq
   | ret fX m1 =>
    simp only [bf] at h; subst h
    have := hq; obtain ⟨rfl, _⟩ := this; exact hq
   | gI v fX m1 =>
    simp only [bf] at h; subst h
    have := hq; obtain ⟨_, _, rfl, _⟩ := this; exact hq
 | .cond c x y, ic, hc, ρ, m, w, fr, a, out, hR, hG, hF, h => by
  simp only [gi] at hc
  cases u5 : fc G c with
  | none => simp [u5] at hc
  | some c' =>
  cases hx : gi P G n x with
  | none => simp [u5, hx] at hc
  | some ix =>
  cases hy : gi P G n y with
  | none => simp [u5, hx, hy] at hc
  | some iy =>
  simp only [u5, hx, hy, bf] at hc;subst hc;simp only [ap] at h;have LS := ia hG hF.tm u5
  cases rP : fr.eval c' <;> simp only [rP, reduceCtorEq] at h
  rename_i t
  rw [rP] at LS;generalize HX : a.eval c = av at LS
  cases LS
  refine wp_cond HX ?_
  cases t with
  | true => exact hZ il bD k x ix hx ρ m w fr a out hR hG hF h
  | false => exact hZ il bD k y iy hy ρ m w fr a out hR hG hF h
 | .block id x, ic, hc, ρ, m, w, fr, a, out, hR, hG, hF, h => by
  simp only [gi] at hc;obtain ⟨ix, hx, rfl⟩ := ag hc
  simp only [ap] at h
  cases h1 : ap call k ix fr m with
  | none => simp [h1] at h
  | some o1 =>
   simp only [h1] at h;have hw := hZ il bD k x ix hx ρ m w fr a o1 hR hG hF h1
   refine wp_block (wp_mono hw fun e a1 w1 hq => ?_)
   cases o1 with
   | norm fX m1 =>
    simp only [bf] at h; subst h
    have := hq; obtain ⟨rfl, _⟩ := this; exact hq
   | exit j fX m1 =>
    obtain ⟨rfl, hq⟩ := hq
    simp only [Exit.inBlock]
    cases hj : j.beq id <;> simp only [hj, cond_true, cond_false, bf] at h <;> subst h
    ·rw [if_neg (jZ hj)]; exact ⟨rfl, hq⟩
    ·rw [if_pos (aS hj)]; exact ⟨rfl, hq⟩
   | ret fX m1 =>
    simp only [bf] at h; subst h
    have := hq; obtain ⟨rfl, _⟩ := this; exact hq
   | gI v fX m1 =>
    simp only [bf] at h; subst h
    have := hq; obtain ⟨_, _, rfl, _⟩ := this; exact hq
 | .loop x, ic, hc, ρ, m, w, fr, a, out, hR, hG, hF, h => by
  simp only [gi] at hc;obtain ⟨ix, hx, rfl⟩ := ag hc
  simp only [ap] at h;refine G6 (fun j a1 w1 => ∃ ρ1 m1 fX, R base ρ1 m1 w1 /\ Step ρ m w ρ1 m1 w1 /\ BV ρ1 n fX a1 /\ iter (ap call k ix) j fX m1 = some out) k ⟨ρ, m, fr, hR, .refl _ _ _, hF, h⟩ ?_
  rintro j a1 w1 ⟨ρ1, m1, fX, lC, hs, wE, hit⟩
  cases j with
  | zero => simp [iter] at hit
  | succ j =>
   simp only [iter] at hit
   cases h1 : ap call k ix fX m1 with
   | none => simp [h1] at hit
   | some o1 =>
    simp only [h1] at hit;have hw := hZ il bD k x ix hx ρ1 m1 w1 fX a1 o1 lC (hG.ext hs.ext) wE h1
    refine wp_mono hw fun e a2 w2 hq => ?_
    cases o1 with
    | norm Zo m2 =>
     obtain ⟨rfl, ρ2, hR2, Sv, hF2⟩ := hq
     exact ⟨j, Nat.lt_succ_self j, ρ2, m2, Zo, hR2, hs.trans Sv, hF2, hit⟩
    | exit id Zo m2 =>
     simp only [bf] at hit; subst hit
     have := hq; obtain ⟨rfl, _⟩ := this; exact hq.after hs
    | ret Zo m2 =>
     simp only [bf] at hit; subst hit
     have := hq; obtain ⟨rfl, _⟩ := this; exact hq.after hs
    | gI v Zo m2 =>
     simp only [bf] at hit; subst hit
     have := hq; obtain ⟨_, _, rfl, _⟩ := this; exact hq.after hs
 | .scope x, ic, hc, ρ, m, w, fr, a, out, hR, hG, hF, h => by
  simp only [gi] at hc;refine wp_scope_straight (wp_mono (hZ il bD k x ic hc ρ m w fr a out hR hG hF h) fun e a1 w1 hq => ?_)
  cases out with
  | norm fX m1 => have := hq; obtain ⟨rfl, _⟩ := this; exact hq
  | exit id fX m1 => have := hq; obtain ⟨rfl, _⟩ := this; exact hq
  | ret fX m1 => have := hq; obtain ⟨rfl, _⟩ := this; exact hq
  | gI v fX m1 => have := hq; obtain ⟨_, _, rfl, _⟩ := this; exact hq
 | .goto l, ic, hc, ρ, m, w, fr, a, out, hR, hG, hF, h => by simp [gi] at hc
 | .refuse l, ic, hc, ρ, m, w, fr, a, out, hR, hG, hF, h => by simp [gi] at hc
 | .rangeFunc f ps s b, ic, hc, ρ, m, w, fr, a, out, hR, hG, hF, h => by simp [gi] at hc
theorem GV : ∀ (l : List EV) (i : Nat) (t : Tr EV) (k : Nat), (cK l i t).get k = if i <= k /\ k < i + l.length then l[k - i]? else t.get k
 | [], i, t, k => by rw [if_neg (fun h => by have := h.2; simp at this; omega)]; rfl
 | v :: l, i, t, k => by
  simp only [cK];rw [GV l (i + 1) (t.set i v) k, Tr.bW];by_cases h : k = i
  ·subst h
   rw [if_neg (by omega), if_pos rfl, if_pos (by simp)];simp
  ·by_cases h2 : i + 1 <= k /\ k < i + 1 + l.length
   ·rw [if_pos h2, if_pos (by simp; omega), show k - i = (k - (i + 1)) + 1 by omega]
    simp
   ·rw [if_neg h2, if_neg h, if_neg (by simp; omega)]
theorem vb {ρ : ev} {args : List EV} {ay : Array Value} (hv : fx ρ args ay.toList) (hn : ay.size <= n) : BV ρ n ⟨cK args 0 .leaf, []⟩ { tmps := ay ++ Array.replicate (n - ay.size) undef, defers := [] } := by
 have hl := hv.length
 simp at hl
 refine ⟨⟨by simp; omega, fun t => ?_⟩, .nil⟩
 unfold Fr.get;simp only
 rw [GV, Tr.zp];by_cases h : 0 <= t /\ t < 0 + args.length
 ·rw [if_pos h]
  have bn : t < args.length := by omega
  obtain ⟨v', g1, g2⟩ := hv.get t args[t] (nc bn)
  rw [show t - 0 = t by omega, nc bn];rw [Array.getD_eq_getD_getElem?, Array.getElem?_append_left (by omega)];rw [Array.getElem?_toList] at g1;rw [g1];exact g2
 ·rw [if_neg h]
  have bn : ay.size <= t := by omega
  have e : (ay ++ Array.replicate (n - ay.size) undef).getD t undef = undef := by
   rw [Array.getD_eq_getD_getElem?, Array.getElem?_append_right bn, Array.getElem?_replicate]
   split <;> rfl
  rw [e];exact .undef
theorem xp {base : Nat} {ρ : ev} {m : Mem} {w : World} {fr : Fr} {a : Act} (hR : R base ρ m w) (hF : FR ρ n fr a) : ∀ (rs : List ResultVar) (Vr : List lX) (vs : List EV), rs.mapM (Ad P) = some Vr -> bN fr m Vr = some vs ->
  ∃ uE, (rs.mapM fun r => (match r with | .tmp t => pure (a.tmps.getD t undef) | .cell ad t => do loadVar t (<- asAddr (a.tmps.getD ad undef)) : Sem Value)).run P w = .ok uE w /\ fx ρ vs uE
 | [], Vr, vs, hc, h => by
  simp at hc; subst hc
  simp [bN] at h; subst h
  exact ⟨[], rfl, .nil⟩
 | r :: rs, Vr, vs, hc, h => by
  rw [List.mapM_cons] at hc
  cases hr : Ad P r with
  | none => simp [hr] at hc
  | some ir =>
  cases XM : rs.mapM (Ad P) with
  | none => simp [hr, XM] at hc
  | some abl =>
  simp [hr, XM] at hc
  subst hc;simp only [bN] at h
  cases hv : zH fr m ir with
  | none => simp [hv] at h
  | some v =>
  simp only [hv] at h;obtain ⟨vs0, h0, rfl⟩ := ag h
  obtain ⟨uE, r1, r2⟩ := xp hR hF rs abl vs0 XM h0
  cases r with
  | tmp t =>
   simp only [Ad, bf] at hr; subst hr
   simp only [zH, bf] at hv; subst hv
   exact ⟨a.tmps.getD t undef :: uE, by simp only [List.mapM_cons, Sem.run_bind, Sem.run_pure, Result.andThen_ok, r1], .cons (hF.tmp t) r2⟩
  | cell ad t =>
   simp only [Ad] at hr;obtain ⟨g, hg, rfl⟩ := ag hr
   simp only [zH] at hv;obtain ⟨ad', v', e1, e2, e3⟩ := xu (P := P) hR hg (hF.tmp ad) hv
   have ea : (asAddr (a.tmps.getD ad undef)).run P w = .ok ad' w := by rw [e1]; rfl
   exact ⟨v' :: uE, by simp only [List.mapM_cons, Sem.run_bind, ea, Sem.run_pure, Result.andThen_ok, e2, r1], .cons e3 r2⟩
theorem OI {ρ : ev} {vs : List EV} {uE : List Value} (h : fx ρ vs uE) : VR ρ (one vs) (if hh : (⟨uE⟩ : Array Value).size = 1 then (⟨uE⟩ : Array Value)[0] else .tuple ⟨uE⟩) := by
 cases h with
 | nil => exact .tuple .nil
 | cons hx hs =>
  cases hs with
  | nil => simpa [one] using hx
  | cons hy hs =>
   simp only [one];rw [dif_neg (by simp)];exact .tuple (.cons hx (.cons hy hs))
def Si (P : Program) (G : List Nat) (g : Nat) (b : Option Nat) (FD : au) : Prop := ∃ fn, P.funcs[g]? = some fn /\ match b with
 | none => bP P G fn = some FD
 | some d => NZ P G fn = some (d, FD)
def KB (P : Program) (G : List Nat) (f : Nat) : iq -> Prop
 | .go F => ∃ fn, P.funcs[f]? = some fn /\ bP P G fn = some F
 | .ext g => ∀ base ρ m w args (ay : Array Value) v, R base ρ m w -> fx ρ args ay.toList -> g args = some v -> ∃ v', (callFunc f ay).run P w = .ok (.value v') w /\ VR ρ v v'
 | .pure g => ∀ base ρ m w args (ay : Array Value) v, R base ρ m w -> fx ρ args ay.toList -> g args = some v -> (callFunc f ay).run P w = .ok (.enter f ay) w /\ Calls P f ay w (nK base ρ m w (.ret v m))
 | .spec g => ∀ base ρ m w args (ay : Array Value) fin, R base ρ m w -> jr G ρ -> fx ρ args ay.toList -> g args m = some fin -> (callFunc f ay).run P w = .ok (.enter f ay) w /\ Calls P f ay w (nK base ρ m w fin)
 | .NW F D => (∃ fn, P.funcs[f]? = some fn /\ bP P G fn = some F) /\ ∀ g b FD, mh g D = some (b, FD) -> Si P G g b FD
theorem xZ {base : Nat} {ρ : ev} {m : Mem} {w : World} {fr : Fr} {a : Act} {fn : Func} {r : List lX} (CN : fn.results.toList.mapM (Ad P) = some r) (hR : R base ρ m w) (hF : FR ρ n fr a) {vs : List EV} (yd : bN fr m r = some vs) :
  ∃ v, (results fn a.tmps).run P w = .ok v w /\ VR ρ (one vs) v := by
 obtain ⟨uE, r1, r2⟩ := xp (P := P) hR hF fn.results.toList r vs CN yd
 refine ⟨_, ?_, OI r2⟩
 simp only [results, Sem.run_bind];rw [Array.mapM_eq_mapM_toList, Sem.run_map]
 erw [r1]
 rfl
theorem E3 {fn : Func} {F : au} (hc : bP P G fn = some F) : ∃ c b r, fn.body = some c /\ (fn.name == "runtime.NumGoroutine") = false /\ gi P G fn.ntmps c = some b /\ fn.results.toList.mapM (Ad P) = some r /\ F = ⟨fn.ntmps, b, r⟩ := by
 unfold bP at hc
 cases hb : fn.body with
 | none => simp [hb] at hc
 | some c =>
 simp only [hb] at hc
 cases JK : fn.name == "runtime.NumGoroutine" <;> simp only [JK, cond_true, cond_false, reduceCtorEq] at hc
 cases u5 : gi P G fn.ntmps c with
 | none => simp [u5] at hc
 | some b =>
 cases CN : fn.results.toList.mapM (Ad P) with
 | none => simp [u5, CN] at hc
 | some r =>
 simp only [u5, CN, bf] at hc;exact ⟨c, b, r, rfl, rfl, u5, rfl, hc.symm⟩
theorem Pz {fn : Func} {d : Nat} {F : au} (hc : NZ P G fn = some (d, F)) : ∃ c b r, fn.body = some c /\ (fn.name == "runtime.NumGoroutine") = false /\ iL P G fn.ntmps c = some (d, b) /\ fn.results.toList.mapM (Ad P) = some r /\ F = ⟨fn.ntmps, b, r⟩ := by
 unfold NZ at hc
 cases hb : fn.body with
 | none => simp [hb] at hc
 | some c =>
 simp only [hb] at hc
 cases JK : fn.name == "runtime.NumGoroutine" <;> simp only [JK, cond_true, cond_false, reduceCtorEq] at hc
 cases u5 : iL P G fn.ntmps c with
 | none => simp [u5] at hc
 | some q =>
 obtain ⟨d', b⟩ := q
 cases CN : fn.results.toList.mapM (Ad P) with
 | none => simp [u5, CN] at hc
 | some r =>
 simp only [u5, CN, bf, eO] at hc;obtain ⟨rfl, rfl⟩ := hc
 exact ⟨c, b, r, rfl, rfl, u5, rfl, rfl⟩
theorem wQ {f : Nat} {fn : Func} (hf : P.funcs[f]? = some fn) {c : Code} (hb : fn.body = some c) (JK : (fn.name == "runtime.NumGoroutine") = false) {ay : Array Value} {w : World} : (callFunc f ay).run P w = .ok (.enter f ay) w := by
 simp [callFunc, hf, hb]
 simpa using JK
theorem N1 (il : P.follows .mixedOrders = true) (bD : pG P G call) (k : Nat) {base : Nat} {fn : Func} {c : Code} {b : aE} {r : List lX} (u5 : gi P G fn.ntmps c = some b) (CN : fn.results.toList.mapM (Ad P) = some r) {args : List EV} {m : Mem} {fin : Fin} (h : dz call k ⟨fn.ntmps, b, r⟩ args m = some fin)
  {ρ : ev} {w : World} {ay : Array Value} (hR : R base ρ m w) (hG : jr G ρ) (hv : fx ρ args ay.toList) :
  c.wp P (bodyPost P fn (nK base ρ m w fin)) { tmps := ay ++ Array.replicate (fn.ntmps - ay.size) undef, defers := [] } w := by
 have hl := hv.length
 simp at hl
 unfold dz at h
 cases hargs : args.length.ble fn.ntmps with
 | false => simp [hargs] at h
 | true =>
 simp only [hargs, cond_true] at h;have hn : ay.size <= fn.ntmps := by have := qS hargs; omega
 cases h1 : ap call k b ⟨cK args 0 .leaf, []⟩ m with
 | none => simp [h1] at h
 | some o1 =>
  simp only [h1] at h;have hw := hZ il bD k c b u5 ρ m w _ _ o1 hR hG (vb hv hn) h1
  refine wp_mono hw fun e a1 w1 hq => ?_
  have done : ∀ {fX : Fr} {m1 : Mem} {ρ1 : ev}, R base ρ1 m1 w1 -> Step ρ m w ρ1 m1 w1 -> BV ρ1 fn.ntmps fX a1 -> (match fX.defers with | [] => (bN fX m1 r).map fun vs => Fin.ret (one vs) m1 | _ => none) = some fin ->
    a1.defers = [] /\ ∃ v, (results fn a1.tmps).run P w1 = .ok v w1 /\ nK base ρ m w fin (.returned v) w1 := by
   intro fX m1 ρ1 lC hs wE xP
   have hd := wE.F2
   cases FQ : fX.defers with
   | cons x l => simp [FQ] at xP
   | nil =>
    rw [FQ] at hd;simp only [FQ] at xP;obtain ⟨vs, yd, rfl⟩ := ag xP
    obtain ⟨v, r1, r2⟩ := xZ CN lC wE.tm yd
    exact ⟨hd.Lk, v, r1, ρ1, v, rfl, r2, lC, hs⟩
  cases o1 with
  | norm fX m1 =>
   obtain ⟨rfl, ρ1, lC, hs, wE⟩ := hq
   exact done lC hs wE h
  | ret fX m1 =>
   obtain ⟨rfl, ρ1, lC, hs, wE⟩ := hq
   exact done lC hs wE h
  | exit id fX m1 => simp at h
  | gI v fX m1 =>
   obtain ⟨ρ1, v', rfl, zi, lC, hs, wE⟩ := hq
   simp only at h
   have hd := wE.F2
   cases FQ : fX.defers with
   | cons x l => simp [FQ] at h
   | nil =>
    rw [FQ] at hd;simp only [FQ, bf] at h;subst h;exact ⟨hd.Lk, ρ1, v', rfl, zi, lC, hs⟩
theorem E8 (il : P.follows .mixedOrders = true) (bD : pG P G call) (k : Nat) {base : Nat} {f : Nat} {fn : Func} (hf : P.funcs[f]? = some fn) {F : au} (hc : bP P G fn = some F) {args : List EV} {m : Mem} {fin : Fin} (h : dz call k F args m = some fin)
  {ρ : ev} {w : World} {ay : Array Value} (hR : R base ρ m w) (hG : jr G ρ) (hv : fx ρ args ay.toList) :
  (callFunc f ay).run P w = .ok (.enter f ay) w /\ Calls P f ay w (nK base ρ m w fin) := by
 obtain ⟨c, b, r, hb, JK, u5, CN, rfl⟩ := E3 hc
 exact ⟨wQ hf hb JK, calls_of_wp hf hb (N1 il bD k u5 CN h hR hG hv)⟩
def um (ρ : ev) (u : Option EV) (md : FrameMode) : Prop := match u with
 | none => md = .returning
 | some v => ∃ v', md = .panicking [{ v := v', recovered := false }] /\ VR ρ v v'
theorem um.ext {ρ ρ' : ev} (e : Ext ρ ρ') {u : Option EV} {md : FrameMode} (h : um ρ u md) : um ρ' u md := by
 cases u with
 | none => exact h
 | some v => obtain ⟨v', h1, h2⟩ := h; exact ⟨v', h1, h2.ext e⟩
theorem um.run {ρ : ev} {u : Option EV} {md : FrameMode} (h : um ρ u md) : md ≠ .run := by
 cases u with
 | none => cases h; simp
 | some v => obtain ⟨v', rfl, _⟩ := h; simp
theorem um.settle {ρ : ev} {u : Option EV} {md : FrameMode} (h : um ρ u md) : Go.settle md = md := by
 cases u with
 | none => cases h; rfl
 | some v => obtain ⟨v', rfl, _⟩ := h; rfl
theorem um.got {ρ : ev} {u : Option EV} {md : FrameMode} (h : um ρ u md) (c₀ : Frame) (cs : List Frame) (hm : c₀.mode = md) : ∃ v' u', VR ρ (u.getD .aD) v' /\ Go.settle u' = .returning /\
  ((recoverD (c₀ :: cs) = none /\ v' = .nilIface /\ ({ c₀ with mode := u' } : Frame) = c₀) \/ recoverD (c₀ :: cs) = some (v', { c₀ with mode := u' } :: cs)) := by
 cases u with
 | none =>
  cases h
  refine ⟨.nilIface, .returning, .aD, rfl, .inl ⟨by simp [recoverD, hm], rfl, ?_⟩⟩
  cases c₀; cases hm; rfl
 | some v =>
  obtain ⟨v', rfl, hv⟩ := h
  exact ⟨v', .panicking [{ v := v', recovered := true }], hv, rfl, .inr (by simp [recoverD, hm])⟩
theorem IR {c : Code} {Q Q' : Exit -> Act -> List Frame -> World -> Prop} {a : Act} {cs : List Frame} {w : World} (h : c.wpS P Q a cs w) (hq : ∀ e a cs w, Q e a cs w -> Q' e a cs w) : c.wpS P Q' a cs w :=
 fun b k h1 h2 => let ⟨e, a', lT, w', q, r⟩ := h b k h1 h2; ⟨e, a', lT, w', hq _ _ _ _ q, r⟩
theorem O8 {o : Oper} (h : Na o = true) : o.guard = none /\ ∃ ts, o.op = .call ⟨.builtin .recover, #[], ts⟩ := by
 unfold Na at h
 split at h
 ·rename_i xs ts h1 h2
  have : xs = #[] := by simpa using h
  subst this;exact ⟨h2, ts, h1⟩
 ·cases h
theorem Bz (il : P.follows .mixedOrders = true) (bD : pG P G call) (k : Nat) {base : Nat} {u : Option EV} {md : FrameMode} {ρ : ev} {m : Mem} {w : World} (hR : R base ρ m w) (hG : jr G ρ) (hu : um ρ u md) (c₀ : Frame) (cs : List Frame) (hm : c₀.mode = md) :
  ∀ (c : Code) (d : Nat) (ic : aE), iL P G n c = some (d, ic) -> ∀ (fr : Fr) (a : Act) (out : Out), BV ρ n fr a -> ap call k ic (fr.set d (u.getD .aD)) m = some out ->
   c.wpS P (fun e a' lT w' => (∃ u', lT = { c₀ with mode := u' } :: cs /\ Go.settle u' = .returning) /\ Reach base n ρ m w out e a' w') a (c₀ :: cs) w
 | .region id ops false, d, ic, hc, fr, a, out, hF, h => by
  simp only [iL] at hc
  cases Rq : ops.toList with
  | nil => simp [Rq] at hc
  | cons o r =>
   simp only [Rq] at hc
   cases XQ : Na o <;> simp only [XQ, cond_true, cond_false, reduceCtorEq] at hc
   cases nB : o.dst with
   | none => simp [nB] at hc
   | some d' =>
   simp only [nB] at hc
   cases bn : Nat.ble (d' + 1) n <;> simp only [bn, cond_true, cond_false, reduceCtorEq] at hc
   obtain ⟨is, Tq, xl⟩ := ag hc
   simp only [eO] at xl;obtain ⟨rfl, rfl⟩ := xl
   obtain ⟨nR, ts, lB⟩ := O8 XQ
   obtain ⟨v', u', hv, Rk, abR⟩ := hu.got c₀ cs hm
   simp only [ap] at h;have wE : BV ρ n (fr.set d' (u.getD .aD)) (a.put o.dst v') := by
    rw [nB];exact hF.put (d := some d') (fun x hx => by cases hx; exact qS bn) hv
   have XL : ops.size = r.length + 1 := by rw [<- Array.length_toList, Rq]; rfl
   have ho : ops[0]? = some o := by rw [<- Array.getElem?_toList, Rq]; rfl
   obtain ⟨h1, h2⟩ := mapM_some _ Tq
   have XU : wpOps P ops (Reach base n ρ m w out) ((List.range r.length).map Nat.succ) (a.put o.dst v') w := by
    refine Gm bD is _ (by simpa using h1.symm) (fun j i io hj BO => ?_) ρ m w _ _ out hR hG wE h
    have bn : j < r.length := by
     have := (uz.1 hj).1
     simpa using this
    rw [List.getElem?_map, List.getElem?_range bn] at hj
    cases hj
    have hrj : r[j]? = some r[j] := nc bn
    refine ⟨r[j], ?_, h2 j r[j] io hrj BO⟩
    rw [<- Array.getElem?_toList, Rq, List.getElem?_cons_succ, hrj]
   intro b kk hb qY
   have hg := stepG_op (P := P) (b := b) (k := kk) (cs := c₀ :: cs) (w := w) (a := a) (rest := (List.range r.length).map Nat.succ) ho (by simp [Region.wanted, nR])
   have hr : (execOp a.eval o).run P w = .ok .recover w := by
    unfold execOp;rw [lB]
    rfl
   have xP : ∀ v, (b.at a (.inRegion ops (0 :: (List.range r.length).map Nat.succ) :: kk)).finish v = b.at (a.put o.dst v) (.inRegion ops ((List.range r.length).map Nat.succ) :: kk) := by
    intro v; rw [Frame.finish_at, ho]; rfl
   have hk : (b.at a (.inRegion ops (0 :: (List.range r.length).map Nat.succ) :: kk)).kind = .deferred := hb
   have Y9 := tryRecover_deferred hk (c₀ :: cs)
   have Ri : step P (lone (b.at a (.inRegion ops (0 :: (List.range r.length).map Nat.succ) :: kk)) (c₀ :: cs) w) = .next (lone (b.at (a.put o.dst v') (.inRegion ops ((List.range r.length).map Nat.succ) :: kk)) ({ c₀ with mode := u' } :: cs) w) := by
    refine step_lone_go ?_
    rw [hg, <- xP];rcases abR with ⟨g1, rfl, g3⟩ | g1
    ·rw [g3]
     simp only [Frame.at] at Y9 ⊢
     simp [stepG.apply, hr, Y9, g1]
    ·simp only [Frame.at] at Y9 ⊢
     simp [stepG.apply, hr, Y9, g1]
   obtain ⟨e, a', w', hq, rQ⟩ := wp_ops _ _ _ XU b kk ({ c₀ with mode := u' } :: cs)
   refine ⟨e, a', _, w', ⟨⟨u', rfl, Rk⟩, hq⟩, .of_steps (.head step_region ?_) rQ⟩
   rw [XL, List.range_succ_eq_map];exact .one Ri
 | .seq x y, d, ic, hc, fr, a, out, hF, h => by
  simp only [iL] at hc
  cases hx : iL P G n x with
  | none => simp [hx] at hc
  | some q =>
  obtain ⟨d', ix⟩ := q
  cases hy : gi P G n y with
  | none => simp [hx, hy] at hc
  | some iy =>
  simp only [hx, hy, bf, eO] at hc;obtain ⟨rfl, rfl⟩ := hc
  simp only [ap] at h
  cases h1 : ap call k ix (fr.set d' (u.getD .aD)) m with
  | none => simp [h1] at h
  | some o1 =>
   simp only [h1] at h;have hw := Bz il bD k hR hG hu c₀ cs hm x d' ix hx fr a o1 hF h1
   refine wpS_seq (IR hw fun e a1 cs1 w1 ⟨mg, hq⟩ => ?_)
   cases o1 with
   | norm fX m1 =>
    obtain ⟨rfl, ρ1, lC, hs, wE⟩ := hq
    have := hZ il bD k y iy hy ρ1 m1 w1 fX a1 out lC (hG.ext hs.ext) wE h
    exact wpS_of_wp (wp_mono this fun e a w hq => ⟨mg, hq.after hs⟩)
   | exit id fX m1 =>
    simp only [bf] at h; subst h
    have := hq; obtain ⟨rfl, _⟩ := this; exact ⟨mg, hq⟩
   | ret fX m1 =>
    simp only [bf] at h; subst h
    have := hq; obtain ⟨rfl, _⟩ := this; exact ⟨mg, hq⟩
   | gI v fX m1 =>
    simp only [bf] at h; subst h
    have := hq; obtain ⟨_, _, rfl, _⟩ := this; exact ⟨mg, hq⟩
 | .region id ops true, d, ic, hc, _, _, _, _, _ => by simp [iL] at hc
 | .skip, d, ic, hc, _, _, _, _, _ => by simp [iL] at hc
 | .label _, d, ic, hc, _, _, _, _, _ => by simp [iL] at hc
 | .exit _, d, ic, hc, _, _, _, _, _ => by simp [iL] at hc
 | .ret, d, ic, hc, _, _, _, _, _ => by simp [iL] at hc
 | .cond _ _ _, d, ic, hc, _, _, _, _, _ => by simp [iL] at hc
 | .block _ _, d, ic, hc, _, _, _, _, _ => by simp [iL] at hc
 | .loop _, d, ic, hc, _, _, _, _, _ => by simp [iL] at hc
 | .scope _, d, ic, hc, _, _, _, _, _ => by simp [iL] at hc
 | .goto _, d, ic, hc, _, _, _, _, _ => by simp [iL] at hc
 | .refuse _, d, ic, hc, _, _, _, _, _ => by simp [iL] at hc
 | .rangeFunc _ _ _ _, d, ic, hc, _, _, _, _, _ => by simp [iL] at hc
theorem Ko (il : P.follows .mixedOrders = true) (bD : pG P G call) (k : Nat) {base : Nat} {f : Nat} {fn : Func} (hf : P.funcs[f]? = some fn) {d : Nat} {F : au} (hc : NZ P G fn = some (d, F)) {args : List EV} {m m' : Mem} {u : Option EV} {md : FrameMode} (h : fF call k d F args u m = some m')
  {ρ : ev} {w : World} {ay : Array Value} (hR : R base ρ m w) (hG : jr G ρ) (hv : fx ρ args ay.toList) (hu : um ρ u md) :
  (callFunc f ay).run P w = .ok (.enter f ay) w /\ CallsD P f ay md w fun e u' w' => Go.settle u' = .returning /\ ∃ v ρ', e = .returned v /\ R base ρ' m' w' /\ Step ρ m w ρ' m' w' := by
 obtain ⟨c, b, r, hb, JK, u5, CN, rfl⟩ := Pz hc
 refine ⟨wQ hf hb JK, callsD_of_wpS hf hb fun c₀ cs hm => ?_⟩
 have hl := hv.length
 simp at hl
 unfold fF at h
 cases hargs : args.length.ble fn.ntmps with
 | false => simp [hargs] at h
 | true =>
 simp only [hargs, cond_true] at h;have hn : ay.size <= fn.ntmps := by have := qS hargs; omega
 cases h1 : ap call k b (Fr.set ⟨cK args 0 .leaf, []⟩ d (u.getD .aD)) m with
 | none => simp [h1] at h
 | some o1 =>
  simp only [h1] at h;have hw := Bz il bD k hR hG hu c₀ cs hm c d b u5 _ _ o1 (vb hv hn) h1
  refine IR hw fun e a1 cs1 w1 ⟨⟨u', mg, Rk⟩, hq⟩ => ?_
  have done : ∀ {fX : Fr} {m1 : Mem} {ρ1 : ev}, R base ρ1 m1 w1 -> Step ρ m w ρ1 m1 w1 -> BV ρ1 fn.ntmps fX a1 -> (match fX.defers with | [] => (bN fX m1 r).map fun _ => m1 | _ => none) = some m' ->
    a1.defers = [] /\ ∃ u', cs1 = { c₀ with mode := u' } :: cs /\ ∃ v, (results fn a1.tmps).run P w1 = .ok v w1 /\ Go.settle u' = .returning /\ ∃ v2 ρ', Ending.returned v = .returned v2 /\ R base ρ' m' w1 /\ Step ρ m w ρ' m' w1 := by
   intro fX m1 ρ1 lC hs wE xP
   have hd := wE.F2
   cases FQ : fX.defers with
   | cons x l => simp [FQ] at xP
   | nil =>
    rw [FQ] at hd;simp only [FQ] at xP;obtain ⟨vs, yd, rfl⟩ := ag xP
    obtain ⟨v, r1, r2⟩ := xZ CN lC wE.tm yd
    exact ⟨hd.Lk, u', mg, v, r1, Rk, v, ρ1, rfl, lC, hs⟩
  cases o1 with
  | norm fX m1 =>
   obtain ⟨rfl, ρ1, lC, hs, wE⟩ := hq
   exact done lC hs wE h
  | ret fX m1 =>
   obtain ⟨rfl, ρ1, lC, hs, wE⟩ := hq
   exact done lC hs wE h
  | exit id fX m1 => simp at h
  | gI v fX m1 => simp at h
theorem lh (il : P.follows .mixedOrders = true) (bD : pG P G call) (k : Nat) {base : Nat} {fn : Func} {Vr : List lX} (CN : fn.results.toList.mapM (Ad P) = some Vr) {D : List (Nat × Option Nat × au)} (hD : ∀ g b FD, mh g D = some (b, FD) -> Si P G g b FD) {fr : Fr} {a : Act} {ρ0 : ev} {m0 : Mem} {w0 : World} {fin : Fin} :
  ∀ (ds : List (Nat × List EV)) (vj : List Deferred) (u : Option EV) (md : FrameMode) (ρ : ev) (m : Mem) (w : World), xz ρ ds vj -> um ρ u md -> R base ρ m w -> jr G ρ -> FR ρ n fr a -> Step ρ0 m0 w0 ρ m w -> cO call k Vr D fr ds u m = some fin -> Leaves P fn a.tmps (nK base ρ0 m0 w0 fin) vj md w
 | [], vj, u, md, ρ, m, w, EJ, hu, hR, hG, hF, hs, h => by
  cases EJ
  cases u with
  | none =>
   cases hu
   simp only [cO] at h;obtain ⟨vs, yd, rfl⟩ := ag h
   obtain ⟨v, r1, r2⟩ := xZ CN hR hF yd
   exact ⟨v, r1, ρ, v, rfl, r2, hR, hs⟩
  | some v =>
   obtain ⟨v', rfl, hv⟩ := hu
   simp only [cO, bf] at h;subst h;exact ⟨ρ, v', rfl, hv, hR, hs⟩
 | (g, args) :: ds, vj, u, md, ρ, m, w, EJ, hu, hR, hG, hF, hs, h => by
  cases EJ with
  | @cons _ dd _ TK VZ EJ =>
  obtain ⟨c', Tf, hargs⟩ := VZ
  simp only at Tf hargs
  have RA : fx ρ args (dd.args ++ c').toList := by rw [Array.toList_append]; exact hargs
  have hinv : ∀ {w : World}, (callFunc g (dd.args ++ c')).run P w = .ok (.enter g (dd.args ++ c')) w -> (invoke dd.target dd.args).run P w = .ok (.enter g (dd.args ++ c')) w := by
   intro w hh
   rw [Tf];exact hh
  simp only [cO] at h
  cases FQ : mh g D with
  | none => simp [FQ] at h
  | some q =>
  obtain ⟨b, FD⟩ := q
  obtain ⟨fn2, VW, KF⟩ := hD g b FD FQ
  cases b with
  | some d =>
   simp only [FQ] at h;simp only at KF
   cases hb : fF call k d FD args u m with
   | none => simp [hb] at h
   | some m1 =>
    simp only [hb] at h;obtain ⟨abU, LU⟩ := Ko il bD k VW KF hb hR hG RA hu
    refine ⟨hu.run, _, _, g, _, Tf, hinv abU, LU.mono fun e u' w' hq => ?_⟩
    obtain ⟨Rk, v, ρ', rfl, lC, rN⟩ := hq
    show Leaves P fn a.tmps _ TK (Go.settle u') w'
    rw [Rk];exact lh il bD k CN hD ds TK none .returning ρ' m1 w' (EJ.ext rN.ext) rfl lC (hG.ext rN.ext) (hF.ext rN.ext) (hs.trans rN) h
  | none =>
   simp only [FQ] at h;simp only at KF
   obtain ⟨c, b, r, UE, JK, u5, abB, rfl⟩ := E3 KF
   cases hb : dz call k ⟨fn2.ntmps, b, r⟩ args m with
   | none => simp [hb] at h
   | some Yt =>
    simp only [hb] at h;have LU := callsD_of_wp (u := md) VW UE (N1 il bD k u5 abB hb hR hG RA)
    refine ⟨hu.run, _, _, g, _, Tf, hinv (wQ VW UE JK), LU.mono fun e u' w' hq => ?_⟩
    obtain ⟨rfl, hq⟩ := hq
    cases Yt with
    | ret v m1 =>
     obtain ⟨ρ', v', rfl, zi, lC, rN⟩ := hq
     show Leaves P fn a.tmps _ TK (Go.settle u') w'
     rw [hu.settle];exact lh il bD k CN hD ds TK u u' ρ' m1 w' (EJ.ext rN.ext) (hu.ext rN.ext) lC (hG.ext rN.ext) (hF.ext rN.ext) (hs.trans rN) h
    | gI v m1 =>
     cases u with
     | some x => cases h
     | none =>
      obtain ⟨ρ', v', rfl, zi, lC, rN⟩ := hq
      cases hu
      exact lh il bD k CN hD ds TK (some v) _ ρ' m1 w' (EJ.ext rN.ext) ⟨v', rfl, zi⟩ lC (hG.ext rN.ext) (hF.ext rN.ext) (hs.trans rN) h
theorem Ks (il : P.follows .mixedOrders = true) (bD : pG P G call) (k : Nat) {base : Nat} {f : Nat} {fn : Func} (hf : P.funcs[f]? = some fn) {F : au} (hc : bP P G fn = some F) {D : List (Nat × Option Nat × au)} (hD : ∀ g b FD, mh g D = some (b, FD) -> Si P G g b FD) {args : List EV} {m : Mem} {fin : Fin} (h : jf call k F D args m = some fin)
  {ρ : ev} {w : World} {ay : Array Value} (hR : R base ρ m w) (hG : jr G ρ) (hv : fx ρ args ay.toList) :
  (callFunc f ay).run P w = .ok (.enter f ay) w /\ Calls P f ay w (nK base ρ m w fin) := by
 obtain ⟨c, b, r, hb, JK, u5, CN, rfl⟩ := E3 hc
 refine ⟨wQ hf hb JK, calls_of_wp_defers hf hb ?_⟩
 have hl := hv.length
 simp at hl
 unfold jf at h
 cases hargs : args.length.ble fn.ntmps with
 | false => simp [hargs] at h
 | true =>
 simp only [hargs, cond_true] at h;have hn : ay.size <= fn.ntmps := by have := qS hargs; omega
 cases h1 : ap call k b ⟨cK args 0 .leaf, []⟩ m with
 | none => simp [h1] at h
 | some o1 =>
  simp only [h1] at h;have hw := hZ il bD k c b u5 ρ m w _ _ o1 hR hG (vb hv hn) h1
  refine wp_mono hw fun e a1 w1 hq => ?_
  cases o1 with
  | norm fX m1 =>
   obtain ⟨rfl, ρ1, lC, hs, wE⟩ := hq
   exact lh il bD k CN hD _ _ none .returning ρ1 m1 w1 wE.F2 rfl lC (hG.ext hs.ext) wE.tm hs h
  | ret fX m1 =>
   obtain ⟨rfl, ρ1, lC, hs, wE⟩ := hq
   exact lh il bD k CN hD _ _ none .returning ρ1 m1 w1 wE.F2 rfl lC (hG.ext hs.ext) wE.tm hs h
  | exit id fX m1 => simp at h
  | gI v fX m1 =>
   obtain ⟨ρ1, v', rfl, zi, lC, hs, wE⟩ := hq
   exact lh il bD k CN hD _ _ (some v) _ ρ1 m1 w1 wE.F2 ⟨v', rfl, zi⟩ lC (hG.ext hs.ext) wE.tm hs h
theorem ET (il : P.follows .mixedOrders = true) {T : Nat -> Option iq} (hT : ∀ f e, T f = some e -> KB P G f e) : ∀ k, pG P G (aT T k)
 | 0 => fun f args m fin h => by simp [aT] at h
 | k + 1 => fun f args m fin h base ρ w ay hR hG hv => by
  simp only [aT] at h
  cases he : T f with
  | none => simp [he] at h
  | some e =>
   simp only [he] at h;have eh := hT f e he
   cases e with
   | go F =>
    obtain ⟨fn, hf, hc⟩ := eh
    exact .inl (E8 il (ET il hT k) k hf hc h hR hG hv)
   | ext g =>
    simp only [ij] at h;obtain ⟨v, hg, rfl⟩ := ag h
    obtain ⟨v', h1, h2⟩ := eh base ρ m w args ay v hR hv hg
    exact .inr ⟨v, v', rfl, h1, h2⟩
   | pure g =>
    simp only [ij] at h;obtain ⟨v, hg, rfl⟩ := ag h
    exact .inl (eh base ρ m w args ay v hR hv hg)
   | spec g =>
    simp only [ij] at h;exact .inl (eh base ρ m w args ay fin hR hG hv h)
   | NW F D =>
    obtain ⟨⟨fn, hf, hc⟩, hD⟩ := eh
    exact .inl (Ks il (ET il hT k) k hf hc hD h hR hG hv)
end
end
section
def G : List Nat := [0, 1, 2]
abbrev iV (d : Nat) (o : lD) : ba := ⟨some d, .val o, none⟩
abbrev iN (o : lD) : ba := ⟨none, .val o, none⟩
abbrev iG (d : Nat) (o : lD) (g : Nat) (b : Bool) : ba := ⟨some d, .val o, some (g, b)⟩
abbrev iC (d f : Nat) (a : List aW) : ba := ⟨some d, .call (.const (.func f [] [])) a, none⟩
abbrev iH (d f : Nat) (a : List aW) (g : Nat) (b : Bool) : ba := ⟨some d, .call (.const (.func f [] [])) a, some (g, b)⟩
abbrev tm (t : Nat) : aW := .tmp t
abbrev kI (n : Int) : aW := .const (.int .i64 n)
abbrev kS (s : List UInt8) : aW := .const (.str s)
abbrev YW : Nat := 2
abbrev bC : Nat := 3
abbrev ZE : Nat := 4
abbrev YV : Nat := 5
abbrev IJ : Nat := 6
abbrev II : Nat := 8
abbrev dO : Nat := 9
abbrev IH : Nat := 10
abbrev IX : Nat := 11
abbrev Wu : Nat := 12
abbrev BE : Nat := 14
abbrev AD : Nat := 15
abbrev Fv : Nat := 16
abbrev SD : Nat := 17
abbrev DY : Nat := 19
abbrev YX : Nat := 21
abbrev T6 : Nat := 22
abbrev SC : Nat := 23
abbrev aZ : Nat := 25
abbrev Sl : Nat := 31
abbrev YY : Nat := 34
abbrev ao : Nat := 36
abbrev aX : Nat := 39
abbrev PO : Nat := 42
abbrev ah : Nat := 45
abbrev PN : Nat := 57
abbrev eX : Nat := 59
abbrev ai : Nat := 63
abbrev UX : Nat := 81
abbrev Wv : Nat := 86
abbrev Qd : Nat := 89
abbrev cN : Nat := 93
abbrev ZD : Nat := 99
abbrev Xc : Nat := 101
abbrev lb : Nat := 105
abbrev BF : Nat := 108
abbrev Gd : Nat := 111
abbrev T7 : Nat := 112
abbrev UW : Nat := 113
abbrev Ww : Nat := 115
abbrev Sk : Nat := 116
abbrev Sj : Nat := 117
abbrev UU : Nat := 119
abbrev Ou : Nat := 120
/- balustrade/balustradelaw08.ParseTokens -/
abbrev lJ : Nat := 5
def dZ : aE :=
 (.seq
 (.seq
 (.region [iV 24 (.aa (tm 6)),
 iV 25 (.aa (tm 3)),
 iV 26 (.len (tm 25)),
 iV 27 (.bin .lss (tm 24) (tm 26))])
 (.cond (.tmp 27)
 .skip
 (.exit 0)))
 (.seq
 (.block 1
 (.region [iV 30 (.aa (tm 5)),
 iV 31 (.aa (tm 3)),
 iV 32 (.aa (tm 6)),
 iV 33 (.cS 4 (tm 31) (tm 32)),
 iV 34 (.aj 1 (tm 33)),
 iV 35 (.load none (tm 34)),
 iV 36 (.bin .add (tm 30) (tm 35)),
 iV 37 (.bin .add (tm 36) (kS [9, 35, 125, 10])),
 iV 5 (.aa (tm 37))]))
 (.region [iV 28 (.aa (tm 6)),
 iV 29 (.bin .add (tm 28) (kI 1)),
 iV 6 (.aa (tm 29))])))
def cC : au :=
 ⟨61,
 (.seq
 (.region [iV 2 (.aa (.const (.bool false)))])
 (.seq
 (.seq
 (.region [iV 11 (.aa (tm 0)),
 iV 12 (.cD (tm 11)),
 iV 13 (.bin .gtr (tm 12) (kI 1000))])
 (.cond (.tmp 13)
 (.seq
 (.region [iC 14 8 [],
 iV 2 (.aa (tm 14))])
 .ret)
 .skip))
 (.seq
 (.region [iV 16 (.aa (tm 0)),
 iC 17 9 [(tm 16)],
 iV 15 (.aa (tm 17)),
 iV 18 (.extract (tm 15) 0),
 iV 19 (.extract (tm 15) 1),
 iV 4 (.alloc 25 [(.int .i64 0), (.int .i64 0)]),
 iV 3 (.aa (tm 18)),
 iN (.store 2 (tm 4) (tm 19))])
 (.seq
 (.seq
 (.region [iV 20 (.aj 0 (tm 4)),
 iV 21 (.load none (tm 20)),
 iV 22 (.eq true (.aG 1) (tm 21) (kI 0))])
 (.cond (.tmp 22)
 (.seq
 (.region [iC 23 8 [],
 iV 2 (.aa (tm 23))])
 .ret)
 .skip))
 (.seq
 (.region [iV 5 (.aa (kS []))])
 (.seq
 (.seq
 (.region [iV 6 (.aa (kI 0))])
 (.block 0
 (.loop dZ)))
 (.seq
 (.region [iV 39 (.aa (tm 0)),
 iC 40 6 [(tm 39)],
 iV 38 (.aa (tm 40)),
 iV 41 (.extract (tm 38) 0),
 iV 42 (.extract (tm 38) 1),
 iV 8 (.alloc 25 [(.int .i64 0), (.int .i64 0)]),
 iV 7 (.aa (tm 41)),
 iN (.store 2 (tm 8) (tm 42))])
 (.seq
 (.region [iV 44 (.aa (tm 5)),
 iC 45 6 [(tm 44)],
 iV 43 (.aa (tm 45)),
 iV 46 (.extract (tm 43) 0),
 iV 47 (.extract (tm 43) 1),
 iV 10 (.alloc 25 [(.int .i64 0), (.int .i64 0)]),
 iV 9 (.aa (tm 46)),
 iN (.store 2 (tm 10) (tm 47))])
 (.seq
 (.region [iV 48 (.aa (tm 7)),
 iV 49 (.aa (tm 9)),
 iC 50 11 [(tm 48), (tm 49)],
 iV 51 (.aa (tm 50)),
 iG 52 (.aj 0 (tm 8)) 51 true,
 iG 53 (.load none (tm 52)) 51 true,
 iG 54 (.aj 0 (tm 10)) 51 true,
 iG 55 (.load none (tm 54)) 51 true,
 iG 56 (.eq false (.aG 1) (tm 53) (tm 55)) 51 true,
 iV 57 (.pick (tm 51) (tm 56) (.const (.bool false))),
 iV 58 (.aa (tm 57)),
 iH 59 8 [] 58 true,
 iV 60 (.pick (tm 58) (tm 59) (.const (.bool false))),
 iV 2 (.aa (tm 60))])
 .ret))))))))),
 [.tmp 2]⟩
theorem ok5 : bP Tryd.prog G Tryd.f5 = some cC := by kernel_rfl
/- balustrade/parse.Parse -/
abbrev FL : Nat := 6
def br : aE :=
 (.seq
 (.seq
 (.region [iV 20 (.load (some 1) (tm 6)),
 iC 21 14 [(tm 20)],
 iV 22 (.aa (tm 21)),
 iG 23 (.aj 0 (tm 6)) 22 true,
 iG 24 (.load none (tm 23)) 22 true,
 iH 25 15 [(tm 24)] 22 true,
 iG 26 (.AX none 0 (tm 25)) 22 true,
 iG 27 (.eq true (.aG 1) (tm 26) (kI 0)) 22 true,
 iV 28 (.pick (tm 22) (tm 27) (.const (.bool false)))])
 (.cond (.tmp 28)
 .skip
 (.exit 0)))
 (.block 1
 (.seq
 (.seq
 (.region [iV 29 (.aa (tm 7)),
 iV 30 (.len (tm 29)),
 iV 31 (.eq false (.aG 1) (tm 30) (kI 200)),
 iV 32 (.aa (tm 31)),
 iG 33 (.aj 0 (tm 6)) 32 true,
 iG 34 (.load none (tm 33)) 32 true,
 iH 35 16 [(tm 34), (kS [102, 110])] 32 true,
 iV 36 (.pick (tm 32) (tm 35) (.const (.bool false)))])
 (.cond (.tmp 36)
 (.draw [iV 37 (.aj 0 (tm 6)),
 iV 38 (.load none (tm 37)),
 iV 39 (.aj 0 (tm 6)),
 iV 40 (.load none (tm 39)),
 iC 41 15 [(tm 40)],
 iV 42 (.AX none 3 (tm 41)),
 iC 43 17 [(tm 38), (kI 3), (tm 42)]] [(1, 4)])
 .skip))
 (.region [iV 44 (.aa (tm 7)),
 iV 45 (.load (some 1) (tm 6)),
 iC 46 18 [(tm 45)],
 iV 47 (.bt 3 1 1 [(.int .i64 0)] [(0, (tm 46))]),
 iV 48 (.append 3 1 8 (tm 44) (tm 47)),
 iV 7 (.aa (tm 48))]))))
def eY : au :=
 ⟨64,
 (.seq
 (.region [iV 2 (.aa (.const .ae)),
 iV 3 (.alloc 25 [(.int .i64 0), (.int .i64 0)])])
 (.seq
 (.region [iV 9 (.aa (tm 0)),
 iC 10 12 [(tm 9)],
 iV 8 (.aa (tm 10)),
 iV 11 (.extract (tm 8) 0),
 iV 12 (.extract (tm 8) 1),
 iV 5 (.alloc 25 [(.int .i64 0), (.int .i64 0)]),
 iV 4 (.aa (tm 11)),
 iN (.store 2 (tm 5) (tm 12))])
 (.seq
 (.seq
 (.region [iV 13 (.aj 0 (tm 5)),
 iV 14 (.load none (tm 13)),
 iV 15 (.eq true (.aG 1) (tm 14) (kI 0))])
 (.cond (.tmp 15)
 (.seq
 (.draw [iV 16 (.load (some 2) (tm 5)),
 iV 2 (.aa (.const .ae)),
 iN (.store 2 (tm 3) (tm 16))] [])
 .ret)
 .skip))
 (.seq
 (.region [iV 17 (.aa (tm 4)),
 iC 18 13 [(tm 17)],
 iV 19 (.build [.bL] [(0, 1, (tm 18))]),
 iV 6 (.alloc 45 [.bL]),
 iN (.store 1 (tm 6) (tm 19))])
 (.seq
 (.region [iV 7 (.aa (.const .ae))])
 (.seq
 (.block 0
 (.loop br))
 (.seq
 (.region [iV 49 (.aj 0 (tm 6)),
 iV 50 (.load none (tm 49)),
 iV 51 (.aa (tm 7)),
 iV 52 (.build [(.int .i64 0), .ae, (.int .i64 0), (.str []), (.int .i64 0)] [(0, 1, (kI 26)), (1, 1, (tm 51))]),
 iC 53 19 [(tm 50), (tm 52)]])
 (.seq
 (.seq
 (.region [iV 54 (.load (some 1) (tm 6)),
 iC 55 14 [(tm 54)],
 iV 56 (.un .not (tm 55))])
 (.cond (.tmp 56)
 (.seq
 (.region [iV 57 (.aj 0 (tm 6)),
 iV 58 (.load none (tm 57)),
 iC 59 20 [(tm 58)],
 iV 2 (.aa (.const .ae)),
 iN (.store 2 (tm 3) (tm 59))])
 .ret)
 .skip))
 (.seq
 (.region [iV 60 (.aj 0 (tm 6)),
 iV 61 (.load none (tm 60)),
 iC 62 21 [(tm 61)],
 iV 63 (.build [(.int .i64 0), (.int .i64 0)] []),
 iV 2 (.aa (tm 62)),
 iN (.store 2 (tm 3) (tm 63))])
 .ret))))))))),
 [.tmp 2, .cell 3 (some 2)]⟩
theorem ok6 : bP Tryd.prog G Tryd.f6 = some eY := by kernel_rfl
/- balustrade/balustradelaw08.works -/
abbrev Ui : Nat := 8
def lz : au :=
 ⟨33,
 (.seq
 (.region [iV 0 (.aa (.const (.bool false)))])
 (.seq
 (.region [iC 6 6 [(kS [102, 110, 32, 109, 97, 105, 110, 40, 120, 32, 97, 114, 114, 41, 32, 105, 110, 116, 32, 123, 32, 112, 114, 105, 110, 116, 32, 108, 101, 110, 40, 120, 41, 59, 32, 125])],
 iV 5 (.aa (tm 6)),
 iV 7 (.extract (tm 5) 0),
 iV 8 (.extract (tm 5) 1),
 iV 2 (.alloc 25 [(.int .i64 0), (.int .i64 0)]),
 iV 1 (.aa (tm 7)),
 iN (.store 2 (tm 2) (tm 8))])
 (.seq
 (.region [iC 10 6 [(kS [102, 110, 32, 102, 40, 41, 32, 123, 32, 125])],
 iV 9 (.aa (tm 10)),
 iV 11 (.extract (tm 9) 0),
 iV 12 (.extract (tm 9) 1),
 iV 4 (.alloc 25 [(.int .i64 0), (.int .i64 0)]),
 iV 3 (.aa (tm 11)),
 iN (.store 2 (tm 4) (tm 12))])
 (.seq
 (.region [iV 13 (.load (some 2) (tm 2)),
 iV 14 (.build [(.int .i64 0), (.int .i64 0)] []),
 iV 15 (.eq false (.agg [(none, 0, (.aG 1)), (none, 1, (.aG 1))]) (tm 13) (tm 14)),
 iV 16 (.aa (tm 15)),
 iG 17 (.aa (tm 1)) 16 true,
 iH 18 22 [(tm 17)] 16 true,
 iV 19 (.pick (tm 16) (tm 18) (.const (.bool false))),
 iV 20 (.aa (tm 19)),
 iG 21 (.aa (tm 1)) 20 true,
 iG 22 (.aa (tm 1)) 20 true,
 iG 23 (.len (tm 22)) 20 true,
 iG 24 (.bin .sub (tm 23) (kI 1)) 20 true,
 iH 25 23 [(tm 21), (tm 24)] 20 true,
 iG 26 (.eq false (.aG 2) (tm 25) (kS [40, 112, 114, 111, 103, 32, 40, 102, 110, 32, 109, 97, 105, 110, 32, 105, 110, 116, 32, 40, 120, 32, 97, 114, 114, 41, 32, 40, 98, 108, 111, 99, 107, 32, 40, 112, 114, 105, 110, 116, 32, 40, 108, 101, 110, 32, 120, 41, 41, 41, 41, 41])) 20 true,
 iV 27 (.pick (tm 20) (tm 26) (.const (.bool false))),
 iV 28 (.aa (tm 27)),
 iG 29 (.load (some 2) (tm 4)) 28 true,
 iG 30 (.build [(.int .i64 0), (.int .i64 0)] [(0, 1, (kI 8)), (1, 1, (kI 7))]) 28 true,
 iG 31 (.eq false (.agg [(none, 0, (.aG 1)), (none, 1, (.aG 1))]) (tm 29) (tm 30)) 28 true,
 iV 32 (.pick (tm 28) (tm 31) (.const (.bool false))),
 iV 0 (.aa (tm 32))])
 .ret)))),
 [.tmp 0]⟩
theorem ok8 : bP Tryd.prog G Tryd.f8 = some lz := by kernel_rfl
/- balustrade/balustraderef05.Tokens -/
abbrev HD : Nat := 9
def ff : aE :=
 (.seq
 (.seq
 (.region [iV 14 (.aa (tm 5)),
 iV 15 (.aa (tm 0)),
 iV 16 (.cD (tm 15)),
 iV 17 (.bin .lss (tm 14) (tm 16))])
 (.cond (.tmp 17)
 .skip
 (.exit 0)))
 (.block 1
 (.seq
 (.region [iV 19 (.aa (tm 0)),
 iV 20 (.aa (tm 5)),
 iV 21 (.gd (tm 19) (some (tm 20)) none),
 iV 22 (.aa (tm 5)),
 iC 23 25 [(tm 21), (tm 22)],
 iV 18 (.aa (tm 23)),
 iV 24 (.extract (tm 18) 0),
 iV 25 (.extract (tm 18) 1),
 iV 6 (.alloc 36 [(.int .i64 0), (.str []), (.int .i64 0), (.int .i64 0)]),
 iN (.store 4 (tm 6) (tm 24)),
 iV 7 (.aa (tm 25))])
 (.seq
 (.seq
 (.region [iV 26 (.aa (tm 7)),
 iV 27 (.eq true (.aG 1) (tm 26) (kI 0))])
 (.cond (.tmp 27)
 (.seq
 (.region [iV 28 (.aa (tm 7)),
 iV 29 (.aa (tm 5)),
 iV 30 (.build [(.int .i64 0), (.int .i64 0)] [(0, 1, (tm 28)), (1, 1, (tm 29))]),
 iV 2 (.aa (.const .ae)),
 iN (.store 2 (tm 3) (tm 30))])
 .ret)
 .skip))
 (.seq
 (.region [iV 31 (.aa (tm 4)),
 iV 32 (.load (some 4) (tm 6)),
 iV 33 (.bt 36 4 1 [(.int .i64 0), (.str []), (.int .i64 0), (.int .i64 0)] [(0, (tm 32))]),
 iV 34 (.append 36 4 40 (tm 31) (tm 33)),
 iV 4 (.aa (tm 34))])
 (.seq
 (.region [iV 35 (.aa (tm 5)),
 iV 36 (.aj 1 (tm 6)),
 iV 37 (.load none (tm 36)),
 iV 38 (.cD (tm 37)),
 iV 39 (.bin .add (tm 35) (tm 38)),
 iV 5 (.aa (tm 39))])
 (.region [iV 40 (.aa (tm 5)),
 iV 41 (.aa (tm 0)),
 iV 42 (.aa (tm 5)),
 iV 43 (.gd (tm 41) (some (tm 42)) none),
 iC 44 24 [(tm 43)],
 iV 45 (.bin .add (tm 40) (tm 44)),
 iV 5 (.aa (tm 45))])))))))
def fZ : au :=
 ⟨53,
 (.seq
 (.region [iV 2 (.aa (.const .ae)),
 iV 3 (.alloc 25 [(.int .i64 0), (.int .i64 0)])])
 (.seq
 (.seq
 (.region [iV 8 (.aa (tm 0)),
 iV 9 (.cD (tm 8)),
 iV 10 (.bin .gtr (tm 9) (kI 65536))])
 (.cond (.tmp 10)
 (.seq
 (.region [iV 11 (.build [(.int .i64 0), (.int .i64 0)] [(0, 1, (kI 3))]),
 iV 2 (.aa (.const .ae)),
 iN (.store 2 (tm 3) (tm 11))])
 .ret)
 .skip))
 (.seq
 (.region [iV 4 (.aa (.const .ae))])
 (.seq
 (.region [iV 12 (.aa (tm 0)),
 iC 13 24 [(tm 12)],
 iV 5 (.aa (tm 13))])
 (.seq
 (.block 0
 (.loop ff))
 (.seq
 (.region [iV 46 (.aa (tm 4)),
 iV 47 (.aa (tm 0)),
 iV 48 (.cD (tm 47)),
 iV 49 (.build [(.int .i64 0), (.str []), (.int .i64 0), (.int .i64 0)] [(3, 1, (tm 48))]),
 iV 50 (.bt 36 4 1 [(.int .i64 0), (.str []), (.int .i64 0), (.int .i64 0)] [(0, (tm 49))]),
 iV 51 (.append 36 4 40 (tm 46) (tm 50)),
 iV 52 (.build [(.int .i64 0), (.int .i64 0)] []),
 iV 2 (.aa (tm 51)),
 iN (.store 2 (tm 3) (tm 52))])
 .ret)))))),
 [.tmp 2, .cell 3 (some 2)]⟩
theorem ok9 : bP Tryd.prog G Tryd.f9 = some fZ := by kernel_rfl
/- balustrade/balustradebase.HasInt -/
abbrev Sq : Nat := 10
def Bc : aE :=
 (.seq
 (.seq
 (.region [iV 6 (.aa (tm 5)),
 iV 7 (.aa (tm 0)),
 iV 8 (.len (tm 7)),
 iV 9 (.bin .lss (tm 6) (tm 8))])
 (.cond (.tmp 9)
 .skip
 (.exit 0)))
 (.seq
 (.block 1
 (.seq
 (.region [iV 12 (.aa (tm 0)),
 iV 13 (.aa (tm 5)),
 iV 14 (.cS 1 (tm 12) (tm 13)),
 iV 15 (.load none (tm 14)),
 iV 16 (.aa (tm 1)),
 iV 17 (.eq false (.aG 1) (tm 15) (tm 16))])
 (.cond (.tmp 17)
 (.seq
 (.region [iV 4 (.aa (.const (.bool true)))])
 .ret)
 .skip)))
 (.region [iV 10 (.aa (tm 5)),
 iV 11 (.bin .add (tm 10) (kI 1)),
 iV 5 (.aa (tm 11))])))
def ju : au :=
 ⟨18,
 (.seq
 (.region [iV 4 (.aa (.const (.bool false)))])
 (.seq
 (.seq
 (.region [iV 5 (.aa (kI 0))])
 (.block 0
 (.loop Bc)))
 (.seq
 (.region [iV 4 (.aa (.const (.bool false)))])
 .ret))),
 [.tmp 4]⟩
theorem aa9 : bP Tryd.prog G Tryd.f10 = some ju := by kernel_rfl
/- balustrade/balustradebase.SameNodes -/
abbrev rG : Nat := 11
def cP : aE :=
 (.seq
 (.seq
 (.region [iV 11 (.aa (tm 5)),
 iV 12 (.aa (tm 0)),
 iV 13 (.len (tm 12)),
 iV 14 (.bin .lss (tm 11) (tm 13))])
 (.cond (.tmp 14)
 .skip
 (.exit 0)))
 (.seq
 (.block 1
 (.seq
 (.draw [iV 17 (.aa (tm 0)),
 iV 18 (.aa (tm 5)),
 iV 19 (.cS 5 (tm 17) (tm 18)),
 iV 20 (.aj 0 (tm 19)),
 iV 21 (.load none (tm 20)),
 iV 22 (.aa (tm 1)),
 iV 23 (.aa (tm 5)),
 iV 24 (.cS 5 (tm 22) (tm 23)),
 iV 25 (.aj 0 (tm 24)),
 iV 26 (.load none (tm 25)),
 iV 27 (.eq true (.aG 1) (tm 21) (tm 26)),
 iV 28 (.aa (tm 27)),
 iG 29 (.aa (tm 0)) 28 false,
 iG 30 (.aa (tm 5)) 28 false,
 iG 31 (.cS 5 (tm 29) (tm 30)) 28 false,
 iG 32 (.aj 2 (tm 31)) 28 false,
 iG 33 (.load none (tm 32)) 28 false,
 iG 34 (.aa (tm 1)) 28 false,
 iG 35 (.aa (tm 5)) 28 false,
 iG 36 (.cS 5 (tm 34) (tm 35)) 28 false,
 iG 37 (.aj 2 (tm 36)) 28 false,
 iG 38 (.load none (tm 37)) 28 false,
 iG 39 (.eq true (.aG 1) (tm 33) (tm 38)) 28 false,
 iV 40 (.pick (tm 28) (.const (.bool true)) (tm 39)),
 iV 41 (.aa (tm 40)),
 iG 42 (.aa (tm 0)) 41 false,
 iG 43 (.aa (tm 5)) 41 false,
 iG 44 (.cS 5 (tm 42) (tm 43)) 41 false,
 iG 45 (.aj 3 (tm 44)) 41 false,
 iG 46 (.load none (tm 45)) 41 false,
 iG 47 (.aa (tm 1)) 41 false,
 iG 48 (.aa (tm 5)) 41 false,
 iG 49 (.cS 5 (tm 47) (tm 48)) 41 false,
 iG 50 (.aj 3 (tm 49)) 41 false,
 iG 51 (.load none (tm 50)) 41 false,
 iG 52 (.eq true (.aG 2) (tm 46) (tm 51)) 41 false,
 iV 53 (.pick (tm 41) (.const (.bool true)) (tm 52)),
 iV 54 (.aa (tm 53)),
 iG 55 (.aa (tm 0)) 54 false,
 iG 56 (.aa (tm 5)) 54 false,
 iG 57 (.cS 5 (tm 55) (tm 56)) 54 false,
 iG 58 (.aj 1 (tm 57)) 54 false,
 iG 59 (.load none (tm 58)) 54 false,
 iG 60 (.aa (tm 1)) 54 false,
 iG 61 (.aa (tm 5)) 54 false,
 iG 62 (.cS 5 (tm 60) (tm 61)) 54 false,
 iG 63 (.aj 1 (tm 62)) 54 false,
 iG 64 (.load none (tm 63)) 54 false,
 iH 65 26 [(tm 59), (tm 64)] 54 false,
 iG 66 (.un .not (tm 65)) 54 false,
 iV 67 (.pick (tm 54) (.const (.bool true)) (tm 66))] [])
 (.cond (.tmp 67)
 (.seq
 (.region [iV 4 (.aa (.const (.bool false)))])
 .ret)
 .skip)))
 (.region [iV 15 (.aa (tm 5)),
 iV 16 (.bin .add (tm 15) (kI 1)),
 iV 5 (.aa (tm 16))])))
def dA : au :=
 ⟨68,
 (.seq
 (.region [iV 4 (.aa (.const (.bool false)))])
 (.seq
 (.seq
 (.region [iV 6 (.aa (tm 0)),
 iV 7 (.len (tm 6)),
 iV 8 (.aa (tm 1)),
 iV 9 (.len (tm 8)),
 iV 10 (.eq true (.aG 1) (tm 7) (tm 9))])
 (.cond (.tmp 10)
 (.seq
 (.region [iV 4 (.aa (.const (.bool false)))])
 .ret)
 .skip))
 (.seq
 (.seq
 (.region [iV 5 (.aa (kI 0))])
 (.block 0
 (.loop cP)))
 (.seq
 (.region [iV 4 (.aa (.const (.bool true)))])
 .ret)))),
 [.tmp 4]⟩
theorem aa8 : bP Tryd.prog G Tryd.f11 = some dA := by kernel_rfl
/- balustrade/lex.Tokens -/
abbrev HF : Nat := 12
def eG : aE :=
 (.seq
 (.seq
 (.region [iV 13 (.aa (tm 4)),
 iV 14 (.cy (tm 13)),
 iV 15 (.aj 1 (tm 14)),
 iV 16 (.load none (tm 15)),
 iV 17 (.aa (tm 0)),
 iV 18 (.cD (tm 17)),
 iV 19 (.bin .lss (tm 16) (tm 18))])
 (.cond (.tmp 19)
 .skip
 (.exit 0)))
 (.block 1
 (.seq
 (.region [iV 20 (.aa (tm 4)),
 iC 21 27 [(tm 20)],
 iV 5 (.aa (tm 21))])
 (.seq
 (.region [iV 22 (.aa (tm 5)),
 iV 23 (.eq true (.aG 1) (tm 22) (kI 0))])
 (.cond (.tmp 23)
 (.seq
 (.draw [iV 24 (.aa (tm 5)),
 iV 25 (.aa (tm 4)),
 iV 26 (.cy (tm 25)),
 iV 27 (.aj 1 (tm 26)),
 iV 28 (.load none (tm 27)),
 iV 29 (.build [(.int .i64 0), (.int .i64 0)] [(0, 1, (tm 24)), (1, 1, (tm 28))]),
 iV 2 (.aa (.const .ae)),
 iN (.store 2 (tm 3) (tm 29))] [])
 .ret)
 .skip)))))
def gb : au :=
 ⟨37,
 (.seq
 (.region [iV 2 (.aa (.const .ae)),
 iV 3 (.alloc 25 [(.int .i64 0), (.int .i64 0)])])
 (.seq
 (.seq
 (.region [iV 6 (.aa (tm 0)),
 iV 7 (.cD (tm 6)),
 iV 8 (.bin .gtr (tm 7) (kI 65536))])
 (.cond (.tmp 8)
 (.seq
 (.region [iV 9 (.build [(.int .i64 0), (.int .i64 0)] [(0, 1, (kI 3))]),
 iV 2 (.aa (.const .ae)),
 iN (.store 2 (tm 3) (tm 9))])
 .ret)
 .skip))
 (.seq
 (.region [iV 10 (.aa (tm 0)),
 iV 11 (.build [(.str []), (.int .i64 0), .ae] [(0, 1, (tm 10))]),
 iV 12 (.box 59 (tm 11)),
 iV 4 (.aa (tm 12))])
 (.seq
 (.block 0
 (.loop eG))
 (.seq
 (.region [iV 30 (.aa (tm 4)),
 iC 31 28 [(tm 30), (kI 0), (kI 0), (kI 0)]])
 (.seq
 (.region [iV 32 (.aa (tm 4)),
 iV 33 (.cy (tm 32)),
 iV 34 (.aj 2 (tm 33)),
 iV 35 (.load none (tm 34)),
 iV 36 (.build [(.int .i64 0), (.int .i64 0)] []),
 iV 2 (.aa (tm 35)),
 iN (.store 2 (tm 3) (tm 36))])
 .ret)))))),
 [.tmp 2, .cell 3 (some 2)]⟩
theorem aa7 : bP Tryd.prog G Tryd.f12 = some gb := by kernel_rfl
/- balustrade/expr.New -/
abbrev Lv : Nat := 13
def jW : au :=
 ⟨6,
 (.seq
 (.region [iV 2 (.aa (.const .bL))])
 (.seq
 (.region [iV 3 (.aa (tm 0)),
 iV 4 (.build [.ae, (.int .i64 0), (.int .i64 0), .ae, .ae, (.int .i64 0), (.int .i64 0)] [(0, 1, (tm 3))]),
 iV 5 (.box 63 (tm 4)),
 iV 2 (.aa (tm 5))])
 .ret)),
 [.tmp 2]⟩
theorem aa6 : bP Tryd.prog G Tryd.f13 = some jW := by kernel_rfl
/- (balustrade/parse.reader).fine -/
abbrev nY : Nat := 14
def bB : au :=
 ⟨8,
 (.seq
 (.region [iV 1 (.box 45 (tm 0)),
 iV 2 (.aa (.const (.bool false)))])
 (.seq
 (.region [iV 3 (.aj 0 (tm 1)),
 iV 4 (.load none (tm 3)),
 iC 5 20 [(tm 4)],
 iV 6 (.AX none 0 (tm 5)),
 iV 7 (.eq false (.aG 1) (tm 6) (kI 0)),
 iV 2 (.aa (tm 7))])
 .ret)),
 [.tmp 2]⟩
theorem aa5 : bP Tryd.prog G Tryd.f14 = some bB := by kernel_rfl
/- (*balustrade/expr.Reader).Token -/
abbrev km : Nat := 15
def bl : au :=
 ⟨27,
 (.seq
 (.region [iV 2 (.alloc 36 [(.int .i64 0), (.str []), (.int .i64 0), (.int .i64 0)])])
 (.seq
 (.seq
 (.region [iV 3 (.aa (tm 0)),
 iV 4 (.cy (tm 3)),
 iV 5 (.aj 0 (tm 4)),
 iV 6 (.load none (tm 5)),
 iV 7 (.len (tm 6)),
 iV 8 (.eq false (.aG 1) (tm 7) (kI 0))])
 (.cond (.tmp 8)
 (.seq
 (.region [iV 9 (.build [(.int .i64 0), (.str []), (.int .i64 0), (.int .i64 0)] []),
 iN (.store 4 (tm 2) (tm 9))])
 .ret)
 .skip))
 (.seq
 (.draw [iV 10 (.aa (tm 0)),
 iV 11 (.cy (tm 10)),
 iV 12 (.aj 0 (tm 11)),
 iV 13 (.load none (tm 12)),
 iV 14 (.aa (tm 0)),
 iV 15 (.cy (tm 14)),
 iV 16 (.aj 1 (tm 15)),
 iV 17 (.load none (tm 16)),
 iV 18 (.aa (tm 0)),
 iV 19 (.cy (tm 18)),
 iV 20 (.aj 0 (tm 19)),
 iV 21 (.load none (tm 20)),
 iV 22 (.len (tm 21)),
 iV 23 (.bin .sub (tm 22) (kI 1)),
 iV 24 (.min [(tm 17), (tm 23)]),
 iV 25 (.cS 4 (tm 13) (tm 24)),
 iV 26 (.load (some 4) (tm 25)),
 iN (.store 4 (tm 2) (tm 26))] [])
 .ret))),
 [.cell 2 (some 4)]⟩
theorem aa4 : bP Tryd.prog G Tryd.f15 = some bl := by kernel_rfl
/- (*balustrade/expr.Reader).Is -/
abbrev mB : Nat := 16
def cA : au :=
 ⟨21,
 (.seq
 (.region [iV 4 (.aa (.const (.bool false)))])
 (.seq
 (.region [iV 6 (.aa (tm 0)),
 iC 7 15 [(tm 6)],
 iV 5 (.alloc 36 [(.int .i64 0), (.str []), (.int .i64 0), (.int .i64 0)]),
 iN (.store 4 (tm 5) (tm 7))])
 (.seq
 (.region [iV 8 (.aa (tm 0)),
 iC 9 29 [(tm 8)],
 iV 10 (.aa (tm 9)),
 iG 11 (.aj 0 (tm 5)) 10 true,
 iG 12 (.load none (tm 11)) 10 true,
 iG 13 (.bin .geq (tm 12) (kI 3)) 10 true,
 iV 14 (.pick (tm 10) (tm 13) (.const (.bool false))),
 iV 15 (.aa (tm 14)),
 iG 16 (.aj 1 (tm 5)) 15 true,
 iG 17 (.load none (tm 16)) 15 true,
 iG 18 (.aa (tm 1)) 15 true,
 iG 19 (.eq false (.aG 2) (tm 17) (tm 18)) 15 true,
 iV 20 (.pick (tm 15) (tm 19) (.const (.bool false))),
 iV 4 (.aa (tm 20))])
 .ret))),
 [.tmp 4]⟩
theorem aa3 : bP Tryd.prog G Tryd.f16 = some cA := by kernel_rfl
/- (*balustrade/expr.Reader).Fail -/
abbrev dU : Nat := 17
def dv : au :=
 ⟨14,
 (.seq
 (.region [iV 6 (.aa (tm 0)),
 iC 7 29 [(tm 6)]])
 (.cond (.tmp 7)
 (.region [iV 8 (.aa (tm 0)),
 iV 9 (.aa (tm 1)),
 iV 10 (.aa (tm 2)),
 iV 11 (.build [(.int .i64 0), (.int .i64 0)] [(0, 1, (tm 9)), (1, 1, (tm 10))]),
 iV 12 (.cy (tm 8)),
 iV 13 (.aj 5 (tm 12)),
 iN (.store 2 (tm 13) (tm 11))])
 .skip)),
 []⟩
theorem aa2 : bP Tryd.prog G Tryd.f17 = some dv := by kernel_rfl
/- (balustrade/parse.reader).function -/
abbrev fM : Nat := 18
def cu : au :=
 ⟨34,
 (.seq
 (.region [iV 1 (.box 45 (tm 0)),
 iV 2 (.aa (kI 0))])
 (.seq
 (.region [iV 7 (.aj 0 (tm 1)),
 iV 8 (.load none (tm 7)),
 iC 9 30 [(tm 8), (kS [102, 110])]])
 (.seq
 (.region [iV 10 (.aj 0 (tm 1)),
 iV 11 (.load none (tm 10)),
 iC 12 15 [(tm 11)],
 iV 13 (.AX none 3 (tm 12)),
 iV 3 (.aa (tm 13))])
 (.seq
 (.region [iV 14 (.aj 0 (tm 1)),
 iV 15 (.load none (tm 14)),
 iC 16 31 [(tm 15)],
 iV 4 (.aa (tm 16))])
 (.seq
 (.region [iV 17 (.load (some 1) (tm 1)),
 iC 18 32 [(tm 17)],
 iV 5 (.aa (tm 18))])
 (.seq
 (.region [iV 19 (.load (some 1) (tm 1)),
 iC 20 33 [(tm 19)],
 iV 6 (.aa (tm 20))])
 (.seq
 (.region [iV 21 (.aa (tm 5)),
 iV 22 (.load (some 1) (tm 1)),
 iC 23 34 [(tm 22)],
 iV 24 (.bt 3 1 1 [(.int .i64 0)] [(0, (tm 23))]),
 iV 25 (.append 3 1 8 (tm 21) (tm 24)),
 iV 5 (.aa (tm 25))])
 (.seq
 (.region [iV 26 (.aj 0 (tm 1)),
 iV 27 (.load none (tm 26)),
 iV 28 (.aa (tm 4)),
 iV 29 (.aa (tm 6)),
 iV 30 (.aa (tm 5)),
 iV 31 (.aa (tm 3)),
 iV 32 (.build [(.int .i64 0), .ae, (.int .i64 0), (.str []), (.int .i64 0)] [(0, 1, (kI 25)), (3, 1, (tm 28)), (2, 1, (tm 29)), (1, 1, (tm 30)), (4, 1, (tm 31))]),
 iC 33 19 [(tm 27), (tm 32)],
 iV 2 (.aa (tm 33))])
 .ret)))))))),
 [.tmp 2]⟩
theorem aa1 : bP Tryd.prog G Tryd.f18 = some cu := by kernel_rfl
/- (*balustrade/expr.Reader).Put -/
abbrev aA : Nat := 19
def cd : aE :=
 (.seq
 (.region [iV 12 (.bin .lss (tm 11) (tm 10))])
 (.seq
 (.cond (.tmp 12)
 .skip
 (.exit 0))
 (.seq
 (.block 1
 (.seq
 (.region [iV 13 (.cS 1 (tm 9) (tm 11)),
 iV 14 (.load none (tm 13)),
 iV 7 (.aa (tm 14))])
 (.seq
 (.region [iV 15 (.aa (tm 7)),
 iV 16 (.bin .geq (tm 15) (kI 0)),
 iV 17 (.aa (tm 16)),
 iG 18 (.aa (tm 7)) 17 true,
 iG 19 (.aa (tm 0)) 17 true,
 iG 20 (.cy (tm 19)) 17 true,
 iG 21 (.aj 4 (tm 20)) 17 true,
 iG 22 (.load none (tm 21)) 17 true,
 iG 23 (.len (tm 22)) 17 true,
 iG 24 (.bin .lss (tm 18) (tm 23)) 17 true,
 iV 25 (.pick (tm 17) (tm 24) (.const (.bool false)))])
 (.cond (.tmp 25)
 (.region [iV 26 (.aa (tm 5)),
 iV 27 (.aa (tm 0)),
 iV 28 (.cy (tm 27)),
 iV 29 (.aj 4 (tm 28)),
 iV 30 (.load none (tm 29)),
 iV 31 (.aa (tm 7)),
 iV 32 (.cS 1 (tm 30) (tm 31)),
 iV 33 (.load none (tm 32)),
 iV 34 (.bin .add (tm 33) (kI 1)),
 iV 35 (.max [(tm 26), (tm 34)]),
 iV 5 (.aa (tm 35))])
 .skip))))
 (.region [iV 36 (.bin .add (tm 11) (kI 1)),
 iV 11 (.aa (tm 36))]))))
def ez : au :=
 ⟨72,
 (.seq
 (.region [iV 3 (.box 39 (tm 1)),
 iV 4 (.aa (kI 0))])
 (.seq
 (.region [iV 5 (.aa (kI 1))])
 (.seq
 (.seq
 (.region [iV 8 (.aj 1 (tm 3)),
 iV 9 (.load none (tm 8)),
 iV 10 (.len (tm 9)),
 iV 11 (.aa (kI 0))])
 (.block 0
 (.loop cd)))
 (.seq
 (.seq
 (.region [iV 37 (.aa (tm 5)),
 iV 38 (.bin .gtr (tm 37) (kI 200))])
 (.cond (.tmp 38)
 (.region [iV 39 (.aa (tm 0)),
 iV 40 (.aj 4 (tm 3)),
 iV 41 (.load none (tm 40)),
 iC 42 17 [(tm 39), (kI 4), (tm 41)]])
 .skip))
 (.seq
 (.seq
 (.region [iV 43 (.aa (tm 0)),
 iC 44 29 [(tm 43)],
 iV 45 (.un .not (tm 44))])
 (.cond (.tmp 45)
 (.seq
 (.region [iV 4 (.aa (kI (-1)))])
 .ret)
 .skip))
 (.seq
 (.draw [iV 46 (.aa (tm 0)),
 iV 47 (.aa (tm 0)),
 iV 48 (.aa (tm 0)),
 iV 49 (.cy (tm 48)),
 iV 50 (.aj 3 (tm 49)),
 iV 51 (.load none (tm 50)),
 iV 52 (.load (some 5) (tm 3)),
 iV 53 (.bt 39 5 1 [(.int .i64 0), .ae, (.int .i64 0), (.str []), (.int .i64 0)] [(0, (tm 52))]),
 iV 54 (.append 39 5 64 (tm 51) (tm 53)),
 iV 55 (.aa (tm 0)),
 iV 56 (.cy (tm 55)),
 iV 57 (.aj 4 (tm 56)),
 iV 58 (.load none (tm 57)),
 iV 59 (.aa (tm 5)),
 iV 60 (.bt 3 1 1 [(.int .i64 0)] [(0, (tm 59))]),
 iV 61 (.append 3 1 8 (tm 58) (tm 60)),
 iV 62 (.cy (tm 46)),
 iV 63 (.aj 3 (tm 62)),
 iN (.store 1 (tm 63) (tm 54)),
 iV 64 (.cy (tm 47)),
 iV 65 (.aj 4 (tm 64)),
 iN (.store 1 (tm 65) (tm 61))] [(12, 8)])
 (.seq
 (.region [iV 66 (.aa (tm 0)),
 iV 67 (.cy (tm 66)),
 iV 68 (.aj 3 (tm 67)),
 iV 69 (.load none (tm 68)),
 iV 70 (.len (tm 69)),
 iV 71 (.bin .sub (tm 70) (kI 1)),
 iV 4 (.aa (tm 71))])
 .ret))))))),
 [.tmp 4]⟩
theorem aa0 : bP Tryd.prog G Tryd.f19 = some ez := by kernel_rfl
/- (*balustrade/expr.Reader).Fault -/
abbrev nZ : Nat := 20
def bm : au :=
 ⟨7,
 (.seq
 (.region [iV 2 (.alloc 25 [(.int .i64 0), (.int .i64 0)])])
 (.seq
 (.region [iV 3 (.aa (tm 0)),
 iV 4 (.cy (tm 3)),
 iV 5 (.aj 5 (tm 4)),
 iV 6 (.load (some 2) (tm 5)),
 iN (.store 2 (tm 2) (tm 6))])
 .ret)),
 [.cell 2 (some 2)]⟩
theorem aaZ : bP Tryd.prog G Tryd.f20 = some bm := by kernel_rfl
/- (*balustrade/expr.Reader).Tree -/
abbrev kT : Nat := 21
def ee : au :=
 ⟨8,
 (.seq
 (.region [iV 2 (.aa (.const .ae))])
 (.seq
 (.region [iV 3 (.aa (tm 0)),
 iV 4 (.cy (tm 3)),
 iV 5 (.aj 3 (tm 4)),
 iV 6 (.load none (tm 5)),
 iC 7 35 [(tm 6)],
 iV 2 (.aa (tm 7))])
 .ret)),
 [.tmp 2]⟩
theorem aaY : bP Tryd.prog G Tryd.f21 = some ee := by kernel_rfl
/- balustrade/balustraderef06.Right -/
abbrev Uh : Nat := 22
def Fq : aE :=
 (.seq
 (.seq
 (.region [iV 14 (.aa (tm 5)),
 iV 15 (.aa (tm 0)),
 iV 16 (.aa (tm 4)),
 iV 17 (.cS 5 (tm 15) (tm 16)),
 iV 18 (.aj 1 (tm 17)),
 iV 19 (.load none (tm 18)),
 iV 20 (.len (tm 19)),
 iV 21 (.bin .lss (tm 14) (tm 20))])
 (.cond (.tmp 21)
 .skip
 (.exit 2)))
 (.seq
 (.block 3
 (.seq
 (.region [iV 24 (.aa (tm 0)),
 iV 25 (.aa (tm 4)),
 iV 26 (.cS 5 (tm 24) (tm 25)),
 iV 27 (.aj 1 (tm 26)),
 iV 28 (.load none (tm 27)),
 iV 29 (.aa (tm 5)),
 iV 30 (.cS 1 (tm 28) (tm 29)),
 iV 31 (.load none (tm 30)),
 iV 6 (.aa (tm 31))])
 (.seq
 (.seq
 (.region [iV 32 (.aa (tm 6)),
 iV 33 (.bin .lss (tm 32) (kI 0)),
 iV 34 (.aa (tm 33)),
 iG 35 (.aa (tm 6)) 34 false,
 iG 36 (.aa (tm 4)) 34 false,
 iG 37 (.bin .geq (tm 35) (tm 36)) 34 false,
 iV 38 (.pick (tm 34) (.const (.bool true)) (tm 37)),
 iV 39 (.aa (tm 38)),
 iG 40 (.aa (tm 3)) 39 false,
 iG 41 (.aa (tm 6)) 39 false,
 iH 42 10 [(tm 40), (tm 41)] 39 false,
 iV 43 (.pick (tm 39) (.const (.bool true)) (tm 42))])
 (.cond (.tmp 43)
 (.seq
 (.region [iV 2 (.aa (.const (.bool false)))])
 .ret)
 .skip))
 (.region [iV 44 (.aa (tm 3)),
 iV 45 (.aa (tm 6)),
 iV 46 (.bt 3 1 1 [(.int .i64 0)] [(0, (tm 45))]),
 iV 47 (.append 3 1 8 (tm 44) (tm 46)),
 iV 3 (.aa (tm 47))]))))
 (.region [iV 22 (.aa (tm 5)),
 iV 23 (.bin .add (tm 22) (kI 1)),
 iV 5 (.aa (tm 23))])))
def Fp : aE :=
 (.seq
 (.seq
 (.region [iV 8 (.aa (tm 4)),
 iV 9 (.aa (tm 0)),
 iV 10 (.len (tm 9)),
 iV 11 (.bin .lss (tm 8) (tm 10))])
 (.cond (.tmp 11)
 .skip
 (.exit 0)))
 (.seq
 (.block 1
 (.seq
 (.seq
 (.region [iV 5 (.aa (kI 0))])
 (.block 2
 (.loop Fq)))
 (.seq
 (.region [iV 48 (.aa (tm 0)),
 iV 49 (.aa (tm 4)),
 iV 50 (.cS 5 (tm 48) (tm 49)),
 iV 51 (.load (some 5) (tm 50)),
 iC 52 36 [(tm 51)],
 iV 53 (.un .not (tm 52)),
 iV 54 (.aa (tm 53)),
 iG 55 (.aa (tm 0)) 54 false,
 iG 56 (.aa (tm 0)) 54 false,
 iG 57 (.aa (tm 4)) 54 false,
 iG 58 (.cS 5 (tm 56) (tm 57)) 54 false,
 iG 59 (.load (some 5) (tm 58)) 54 false,
 iH 60 37 [(tm 55), (tm 59)] 54 false,
 iG 61 (.un .not (tm 60)) 54 false,
 iV 62 (.pick (tm 54) (.const (.bool true)) (tm 61))])
 (.cond (.tmp 62)
 (.seq
 (.region [iV 2 (.aa (.const (.bool false)))])
 .ret)
 .skip))))
 (.region [iV 12 (.aa (tm 4)),
 iV 13 (.bin .add (tm 12) (kI 1)),
 iV 4 (.aa (tm 13))])))
def lu : au :=
 ⟨82,
 (.seq
 (.region [iV 2 (.aa (.const (.bool false)))])
 (.seq
 (.region [iV 7 (.bt 3 1 0 [(.int .i64 0)] []),
 iV 3 (.aa (tm 7))])
 (.seq
 (.seq
 (.region [iV 4 (.aa (kI 0))])
 (.block 0
 (.loop Fp)))
 (.seq
 (.region [iV 63 (.aa (tm 0)),
 iV 64 (.len (tm 63)),
 iV 65 (.bin .gtr (tm 64) (kI 0)),
 iV 66 (.aa (tm 65)),
 iG 67 (.aa (tm 3)) 66 true,
 iG 68 (.len (tm 67)) 66 true,
 iG 69 (.aa (tm 0)) 66 true,
 iG 70 (.len (tm 69)) 66 true,
 iG 71 (.bin .sub (tm 70) (kI 1)) 66 true,
 iG 72 (.eq false (.aG 1) (tm 68) (tm 71)) 66 true,
 iV 73 (.pick (tm 66) (tm 72) (.const (.bool false))),
 iV 74 (.aa (tm 73)),
 iG 75 (.aa (tm 0)) 74 true,
 iG 76 (.aa (tm 0)) 74 true,
 iG 77 (.len (tm 76)) 74 true,
 iG 78 (.bin .sub (tm 77) (kI 1)) 74 true,
 iH 79 38 [(tm 75), (tm 78)] 74 true,
 iG 80 (.bin .leq (tm 79) (kI 200)) 74 true,
 iV 81 (.pick (tm 74) (tm 80) (.const (.bool false))),
 iV 2 (.aa (tm 81))])
 .ret)))),
 [.tmp 2]⟩
theorem aaX : bP Tryd.prog G Tryd.f22 = some lu := by kernel_rfl
end
section
/- balustrade/balustraderef06.Tell -/
abbrev Vd : Nat := 23
def F9 : aE :=
 (.seq
 (.seq
 (.region [iV 66 (.aa (tm 7)),
 iV 67 (.aj 1 (tm 5)),
 iV 68 (.load none (tm 67)),
 iV 69 (.len (tm 68)),
 iV 70 (.bin .lss (tm 66) (tm 69))])
 (.cond (.tmp 70)
 .skip
 (.exit 0)))
 (.seq
 (.block 1
 (.region [iV 73 (.aa (tm 6)),
 iV 74 (.bin .add (tm 73) (kS [32])),
 iV 75 (.aa (tm 0)),
 iV 76 (.aj 1 (tm 5)),
 iV 77 (.load none (tm 76)),
 iV 78 (.aa (tm 7)),
 iV 79 (.cS 1 (tm 77) (tm 78)),
 iV 80 (.load none (tm 79)),
 iC 81 23 [(tm 75), (tm 80)],
 iV 82 (.bin .add (tm 74) (tm 81)),
 iV 6 (.aa (tm 82))]))
 (.region [iV 71 (.aa (tm 7)),
 iV 72 (.bin .add (tm 71) (kI 1)),
 iV 7 (.aa (tm 72))])))
def mJ : au :=
 ⟨86,
 (.seq
 (.region [iV 4 (.aa (kS []))])
 (.seq
 (.region [iV 8 (.aa (tm 0)),
 iV 9 (.aa (tm 1)),
 iV 10 (.cS 5 (tm 8) (tm 9)),
 iV 11 (.load (some 5) (tm 10)),
 iV 5 (.alloc 39 [(.int .i64 0), .ae, (.int .i64 0), (.str []), (.int .i64 0)]),
 iN (.store 5 (tm 5) (tm 11))])
 (.seq
 (.seq
 (.region [iV 12 (.aj 0 (tm 5)),
 iV 13 (.load none (tm 12)),
 iV 14 (.eq false (.aG 1) (tm 13) (kI 1))])
 (.cond (.tmp 14)
 (.seq
 (.region [iV 15 (.aj 2 (tm 5)),
 iV 16 (.load none (tm 15)),
 iC 17 39 [(tm 16)],
 iV 4 (.aa (tm 17))])
 .ret)
 .skip))
 (.seq
 (.seq
 (.region [iV 18 (.aj 0 (tm 5)),
 iV 19 (.load none (tm 18)),
 iV 20 (.eq false (.aG 1) (tm 19) (kI 2)),
 iV 21 (.aa (tm 20)),
 iG 22 (.aj 2 (tm 5)) 21 true,
 iG 23 (.load none (tm 22)) 21 true,
 iG 24 (.eq false (.aG 1) (tm 23) (kI 1)) 21 true,
 iV 25 (.pick (tm 21) (tm 24) (.const (.bool false)))])
 (.cond (.tmp 25)
 (.seq
 (.region [iV 4 (.aa (kS [116, 114, 117, 101]))])
 .ret)
 .skip))
 (.seq
 (.seq
 (.region [iV 26 (.aj 0 (tm 5)),
 iV 27 (.load none (tm 26)),
 iV 28 (.eq false (.aG 1) (tm 27) (kI 2))])
 (.cond (.tmp 28)
 (.seq
 (.region [iV 4 (.aa (kS [102, 97, 108, 115, 101]))])
 .ret)
 .skip))
 (.seq
 (.seq
 (.region [iV 29 (.aj 0 (tm 5)),
 iV 30 (.load none (tm 29)),
 iV 31 (.bin .leq (tm 30) (kI 4))])
 (.cond (.tmp 31)
 (.seq
 (.draw [iV 32 (.load (some 5) (tm 5)),
 iC 33 40 [(tm 32)],
 iV 34 (.aj 3 (tm 5)),
 iV 35 (.load none (tm 34)),
 iV 36 (.bin .add (tm 33) (tm 35)),
 iV 4 (.aa (tm 36))] [(3, 1)])
 .ret)
 .skip))
 (.seq
 (.region [iV 37 (.load (some 5) (tm 5)),
 iC 38 40 [(tm 37)],
 iV 6 (.aa (tm 38))])
 (.seq
 (.seq
 (.region [iV 39 (.aj 3 (tm 5)),
 iV 40 (.load none (tm 39)),
 iV 41 (.eq true (.aG 2) (tm 40) (kS [])),
 iV 42 (.aa (tm 41)),
 iG 43 (.aa (tm 6)) 42 true,
 iG 44 (.eq true (.aG 2) (tm 43) (kS [])) 42 true,
 iV 45 (.pick (tm 42) (tm 44) (.const (.bool false)))])
 (.cond (.tmp 45)
 (.region [iV 46 (.aa (tm 6)),
 iV 47 (.bin .add (tm 46) (kS [32])),
 iV 6 (.aa (tm 47))])
 .skip))
 (.seq
 (.region [iV 48 (.aa (tm 6)),
 iV 49 (.aj 3 (tm 5)),
 iV 50 (.load none (tm 49)),
 iV 51 (.bin .add (tm 48) (tm 50)),
 iV 6 (.aa (tm 51))])
 (.seq
 (.seq
 (.region [iV 52 (.aj 0 (tm 5)),
 iV 53 (.load none (tm 52)),
 iV 54 (.eq false (.aG 1) (tm 53) (kI 24)),
 iV 55 (.aa (tm 54)),
 iG 56 (.aj 0 (tm 5)) 55 false,
 iG 57 (.load none (tm 56)) 55 false,
 iG 58 (.eq false (.aG 1) (tm 57) (kI 25)) 55 false,
 iV 59 (.pick (tm 55) (.const (.bool true)) (tm 58))])
 (.cond (.tmp 59)
 (.region [iV 60 (.aa (tm 6)),
 iV 61 (.bin .add (tm 60) (kS [32])),
 iV 62 (.aj 2 (tm 5)),
 iV 63 (.load none (tm 62)),
 iC 64 41 [(tm 63)],
 iV 65 (.bin .add (tm 61) (tm 64)),
 iV 6 (.aa (tm 65))])
 .skip))
 (.seq
 (.seq
 (.region [iV 7 (.aa (kI 0))])
 (.block 0
 (.loop F9)))
 (.seq
 (.region [iV 83 (.aa (tm 6)),
 iV 84 (.bin .add (kS [40]) (tm 83)),
 iV 85 (.bin .add (tm 84) (kS [41])),
 iV 4 (.aa (tm 85))])
 .ret)))))))))))),
 [.tmp 4]⟩
theorem aaW : bP Tryd.prog G Tryd.f23 = some mJ := by kernel_rfl
/- balustrade/balustraderef05.Skip -/
abbrev Lt : Nat := 24
def ig : aE :=
 (.seq
 (.seq
 (.region [iV 5 (.aa (tm 4)),
 iV 6 (.aa (tm 0)),
 iV 7 (.cD (tm 6)),
 iV 8 (.bin .lss (tm 5) (tm 7))])
 (.cond (.tmp 8)
 .skip
 (.exit 0)))
 (.seq
 (.block 1
 (.seq
 (.seq
 (.region [iV 11 (.aa (tm 0)),
 iV 12 (.aa (tm 4)),
 iV 13 (.eu (tm 11) (tm 12)),
 iV 14 (.eq false (.aG 1) (tm 13) (.const (.int .u8 35)))])
 (.cond (.tmp 14)
 (.region [iV 3 (.aa (.const (.bool true)))])
 .skip))
 (.seq
 (.seq
 (.region [iV 15 (.aa (tm 0)),
 iV 16 (.aa (tm 4)),
 iV 17 (.eu (tm 15) (tm 16)),
 iV 18 (.eq false (.aG 1) (tm 17) (.const (.int .u8 10)))])
 (.cond (.tmp 18)
 (.region [iV 3 (.aa (.const (.bool false)))])
 .skip))
 (.seq
 (.region [iV 19 (.aa (tm 3)),
 iV 20 (.un .not (tm 19)),
 iV 21 (.aa (tm 20)),
 iG 22 (.aa (tm 0)) 21 true,
 iG 23 (.aa (tm 4)) 21 true,
 iG 24 (.eu (tm 22) (tm 23)) 21 true,
 iH 25 42 [(tm 24)] 21 true,
 iG 26 (.un .not (tm 25)) 21 true,
 iV 27 (.pick (tm 21) (tm 26) (.const (.bool false)))])
 (.cond (.tmp 27)
 (.seq
 (.region [iV 28 (.aa (tm 4)),
 iV 2 (.aa (tm 28))])
 .ret)
 .skip)))))
 (.region [iV 9 (.aa (tm 4)),
 iV 10 (.bin .add (tm 9) (kI 1)),
 iV 4 (.aa (tm 10))])))
def jU : au :=
 ⟨31,
 (.seq
 (.region [iV 2 (.aa (kI 0))])
 (.seq
 (.region [iV 3 (.aa (.const (.bool false)))])
 (.seq
 (.seq
 (.region [iV 4 (.aa (kI 0))])
 (.block 0
 (.loop ig)))
 (.seq
 (.region [iV 29 (.aa (tm 0)),
 iV 30 (.cD (tm 29)),
 iV 2 (.aa (tm 30))])
 .ret)))),
 [.tmp 2]⟩
theorem aaV : bP Tryd.prog G Tryd.f24 = some jU := by kernel_rfl
/- balustrade/balustraderef05.one -/
abbrev Gt : Nat := 25
def jh : aE :=
 (.seq
 (.seq
 (.region [iV 12 (.aa (tm 6)),
 iV 13 (.aa (tm 0)),
 iV 14 (.cD (tm 13)),
 iV 15 (.bin .lss (tm 12) (tm 14)),
 iV 16 (.aa (tm 15)),
 iG 17 (.aa (tm 0)) 16 true,
 iG 18 (.aa (tm 6)) 16 true,
 iG 19 (.eu (tm 17) (tm 18)) 16 true,
 iH 20 43 [(tm 19)] 16 true,
 iV 21 (.pick (tm 16) (tm 20) (.const (.bool false)))])
 (.cond (.tmp 21)
 .skip
 (.exit 0)))
 (.block 1
 (.region [iV 22 (.aa (tm 6)),
 iV 23 (.bin .add (tm 22) (kI 1)),
 iV 6 (.aa (tm 23))])))
def jg : aE :=
 (.seq
 (.seq
 (.region [iV 40 (.aa (tm 6)),
 iV 41 (.aa (tm 0)),
 iV 42 (.cD (tm 41)),
 iV 43 (.bin .lss (tm 40) (tm 42)),
 iV 44 (.aa (tm 43)),
 iG 45 (.aa (tm 0)) 44 true,
 iG 46 (.aa (tm 6)) 44 true,
 iG 47 (.eu (tm 45) (tm 46)) 44 true,
 iH 48 45 [(tm 47)] 44 true,
 iG 49 (.aa (tm 48)) 44 true,
 iG 50 (.aa (tm 6)) 49 false,
 iG 51 (.bin .gtr (tm 50) (kI 0)) 49 false,
 iG 52 (.aa (tm 51)) 49 false,
 iG 53 (.aa (tm 0)) 52 true,
 iG 54 (.aa (tm 6)) 52 true,
 iG 55 (.eu (tm 53) (tm 54)) 52 true,
 iH 56 43 [(tm 55)] 52 true,
 iG 57 (.pick (tm 52) (tm 56) (.const (.bool false))) 49 false,
 iG 58 (.pick (tm 49) (.const (.bool true)) (tm 57)) 44 true,
 iV 59 (.pick (tm 44) (tm 58) (.const (.bool false)))])
 (.cond (.tmp 59)
 .skip
 (.exit 2)))
 (.block 3
 (.region [iV 60 (.aa (tm 6)),
 iV 61 (.bin .add (tm 60) (kI 1)),
 iV 6 (.aa (tm 61))])))
def j7 : au :=
 ⟨95,
 (.seq
 (.region [iV 4 (.alloc 36 [(.int .i64 0), (.str []), (.int .i64 0), (.int .i64 0)]),
 iV 5 (.aa (kI 0))])
 (.seq
 (.region [iV 6 (.aa (kI 0))])
 (.seq
 (.seq
 (.region [iV 9 (.aa (tm 0)),
 iV 10 (.eu (tm 9) (kI 0)),
 iC 11 43 [(tm 10)]])
 (.cond (.tmp 11)
 (.seq
 (.block 0
 (.loop jh))
 (.seq
 (.region [iV 25 (.aa (tm 0)),
 iV 26 (.aa (tm 6)),
 iV 27 (.gd (tm 25) none (some (tm 26))),
 iC 28 44 [(tm 27)],
 iV 24 (.aa (tm 28)),
 iV 29 (.extract (tm 24) 0),
 iV 30 (.extract (tm 24) 1),
 iV 7 (.aa (tm 29)),
 iV 8 (.aa (tm 30))])
 (.seq
 (.seq
 (.region [iV 31 (.aa (tm 8)),
 iV 32 (.un .not (tm 31))])
 (.cond (.tmp 32)
 (.seq
 (.region [iV 33 (.build [(.int .i64 0), (.str []), (.int .i64 0), (.int .i64 0)] []),
 iN (.store 4 (tm 4) (tm 33)),
 iV 5 (.aa (kI 7))])
 .ret)
 .skip))
 (.seq
 (.region [iV 34 (.aa (tm 0)),
 iV 35 (.aa (tm 6)),
 iV 36 (.gd (tm 34) none (some (tm 35))),
 iV 37 (.aa (tm 7)),
 iV 38 (.aa (tm 1)),
 iV 39 (.build [(.int .i64 0), (.str []), (.int .i64 0), (.int .i64 0)] [(0, 1, (kI 2)), (1, 1, (tm 36)), (2, 1, (tm 37)), (3, 1, (tm 38))]),
 iN (.store 4 (tm 4) (tm 39)),
 iV 5 (.aa (kI 0))])
 .ret))))
 .skip))
 (.seq
 (.block 2
 (.loop jg))
 (.seq
 (.seq
 (.region [iV 62 (.aa (tm 6)),
 iV 63 (.bin .gtr (tm 62) (kI 0)),
 iV 64 (.aa (tm 63)),
 iG 65 (.aa (tm 0)) 64 true,
 iG 66 (.aa (tm 6)) 64 true,
 iG 67 (.gd (tm 65) none (some (tm 66))) 64 true,
 iH 68 46 [(tm 67)] 64 true,
 iV 69 (.pick (tm 64) (tm 68) (.const (.bool false)))])
 (.cond (.tmp 69)
 (.seq
 (.region [iV 70 (.aa (tm 0)),
 iV 71 (.aa (tm 6)),
 iV 72 (.gd (tm 70) none (some (tm 71))),
 iV 73 (.aa (tm 1)),
 iV 74 (.build [(.int .i64 0), (.str []), (.int .i64 0), (.int .i64 0)] [(0, 1, (kI 3)), (1, 1, (tm 72)), (3, 1, (tm 73))]),
 iN (.store 4 (tm 4) (tm 74)),
 iV 5 (.aa (kI 0))])
 .ret)
 .skip))
 (.seq
 (.seq
 (.region [iV 75 (.aa (tm 6)),
 iV 76 (.bin .gtr (tm 75) (kI 32))])
 (.cond (.tmp 76)
 (.seq
 (.region [iV 77 (.build [(.int .i64 0), (.str []), (.int .i64 0), (.int .i64 0)] []),
 iN (.store 4 (tm 4) (tm 77)),
 iV 5 (.aa (kI 3))])
 .ret)
 .skip))
 (.seq
 (.seq
 (.region [iV 78 (.aa (tm 6)),
 iV 79 (.bin .gtr (tm 78) (kI 0))])
 (.cond (.tmp 79)
 (.seq
 (.region [iV 80 (.aa (tm 0)),
 iV 81 (.aa (tm 6)),
 iV 82 (.gd (tm 80) none (some (tm 81))),
 iV 83 (.aa (tm 1)),
 iV 84 (.build [(.int .i64 0), (.str []), (.int .i64 0), (.int .i64 0)] [(0, 1, (kI 1)), (1, 1, (tm 82)), (3, 1, (tm 83))]),
 iN (.store 4 (tm 4) (tm 84)),
 iV 5 (.aa (kI 0))])
 .ret)
 .skip))
 (.seq
 (.region [iV 85 (.aa (tm 0)),
 iC 86 47 [(tm 85)],
 iV 6 (.aa (tm 86))])
 (.seq
 (.seq
 (.region [iV 87 (.aa (tm 6)),
 iV 88 (.eq false (.aG 1) (tm 87) (kI 0))])
 (.cond (.tmp 88)
 (.seq
 (.region [iV 89 (.build [(.int .i64 0), (.str []), (.int .i64 0), (.int .i64 0)] []),
 iN (.store 4 (tm 4) (tm 89)),
 iV 5 (.aa (kI 6))])
 .ret)
 .skip))
 (.seq
 (.region [iV 90 (.aa (tm 0)),
 iV 91 (.aa (tm 6)),
 iV 92 (.gd (tm 90) none (some (tm 91))),
 iV 93 (.aa (tm 1)),
 iV 94 (.build [(.int .i64 0), (.str []), (.int .i64 0), (.int .i64 0)] [(0, 1, (kI 4)), (1, 1, (tm 92)), (3, 1, (tm 93))]),
 iN (.store 4 (tm 4) (tm 94)),
 iV 5 (.aa (kI 0))])
 .ret)))))))))),
 [.cell 4 (some 4), .tmp 5]⟩
theorem aaU : bP Tryd.prog G Tryd.f25 = some j7 := by kernel_rfl
/- balustrade/balustradebase.SameInts -/
abbrev BK : Nat := 26
def eN : aE :=
 (.seq
 (.seq
 (.region [iV 11 (.aa (tm 5)),
 iV 12 (.aa (tm 0)),
 iV 13 (.len (tm 12)),
 iV 14 (.bin .lss (tm 11) (tm 13))])
 (.cond (.tmp 14)
 .skip
 (.exit 0)))
 (.seq
 (.block 1
 (.seq
 (.draw [iV 17 (.aa (tm 0)),
 iV 18 (.aa (tm 5)),
 iV 19 (.cS 1 (tm 17) (tm 18)),
 iV 20 (.load none (tm 19)),
 iV 21 (.aa (tm 1)),
 iV 22 (.aa (tm 5)),
 iV 23 (.cS 1 (tm 21) (tm 22)),
 iV 24 (.load none (tm 23)),
 iV 25 (.eq true (.aG 1) (tm 20) (tm 24))] [])
 (.cond (.tmp 25)
 (.seq
 (.region [iV 4 (.aa (.const (.bool false)))])
 .ret)
 .skip)))
 (.region [iV 15 (.aa (tm 5)),
 iV 16 (.bin .add (tm 15) (kI 1)),
 iV 5 (.aa (tm 16))])))
def fo : au :=
 ⟨26,
 (.seq
 (.region [iV 4 (.aa (.const (.bool false)))])
 (.seq
 (.seq
 (.region [iV 6 (.aa (tm 0)),
 iV 7 (.len (tm 6)),
 iV 8 (.aa (tm 1)),
 iV 9 (.len (tm 8)),
 iV 10 (.eq true (.aG 1) (tm 7) (tm 9))])
 (.cond (.tmp 10)
 (.seq
 (.region [iV 4 (.aa (.const (.bool false)))])
 .ret)
 .skip))
 (.seq
 (.seq
 (.region [iV 5 (.aa (kI 0))])
 (.block 0
 (.loop eN)))
 (.seq
 (.region [iV 4 (.aa (.const (.bool true)))])
 .ret)))),
 [.tmp 4]⟩
theorem aaT : bP Tryd.prog G Tryd.f26 = some fo := by kernel_rfl
/- (*balustrade/lex.scanner).next -/
abbrev bd : Nat := 27
def gB : au :=
 ⟨73,
 (.seq
 (.region [iV 2 (.aa (kI 0))])
 (.seq
 (.draw [iV 8 (.aa (tm 0)),
 iV 9 (.cy (tm 8)),
 iV 10 (.aj 0 (tm 9)),
 iV 11 (.load none (tm 10)),
 iV 12 (.aa (tm 0)),
 iV 13 (.cy (tm 12)),
 iV 14 (.aj 1 (tm 13)),
 iV 15 (.load none (tm 14)),
 iV 16 (.gd (tm 11) (some (tm 15)) none),
 iV 3 (.alloc 9 [(.str [])]),
 iN (.store 1 (tm 3) (tm 16))] [])
 (.seq
 (.seq
 (.region [iV 17 (.load none (tm 3)),
 iV 18 (.eu (tm 17) (kI 0)),
 iC 19 48 [(tm 18)]])
 (.block 0
 (.seq
 (.region [iV 21 (.eq false (.aG 1) (tm 19) (kI 1)),
 iV 20 (.aa (tm 21))])
 (.cond (.tmp 20)
 (.draw [iV 22 (.aa (tm 0)),
 iV 23 (.cy (tm 22)),
 iV 24 (.aj 1 (tm 23)),
 iV 25 (.load none (tm 24)),
 iV 26 (.load none (tm 3)),
 iV 27 (.bt 3 1 1 [(.int .i64 0)] [(0, (kI 1))]),
 iC 28 49 [(tm 26), (tm 27)],
 iV 29 (.bin .add (tm 25) (tm 28)),
 iV 30 (.cy (tm 22)),
 iV 31 (.aj 1 (tm 30)),
 iN (.store 1 (tm 31) (tm 29))] [(3, 6)])
 (.seq
 (.region [iV 33 (.eq false (.aG 1) (tm 19) (kI 2)),
 iV 32 (.aa (tm 33))])
 (.cond (.tmp 32)
 (.seq
 (.region [iV 35 (.load none (tm 3)),
 iC 36 50 [(tm 35), (kS [10])],
 iV 34 (.aa (tm 36)),
 iV 37 (.extract (tm 34) 0),
 iV 38 (.extract (tm 34) 1),
 iV 39 (.extract (tm 34) 2),
 iV 4 (.aa (tm 37)),
 iV 5 (.aa (tm 38)),
 iV 6 (.aa (tm 39))])
 (.region [iV 40 (.aa (tm 0)),
 iV 41 (.cy (tm 40)),
 iV 42 (.aj 1 (tm 41)),
 iV 43 (.load none (tm 42)),
 iV 44 (.aa (tm 4)),
 iV 45 (.cD (tm 44)),
 iV 46 (.bin .add (tm 43) (tm 45)),
 iV 47 (.cy (tm 40)),
 iV 48 (.aj 1 (tm 47)),
 iN (.store 1 (tm 48) (tm 46))]))
 (.seq
 (.region [iV 50 (.eq false (.aG 1) (tm 19) (kI 3)),
 iV 49 (.aa (tm 50))])
 (.cond (.tmp 49)
 (.seq
 (.region [iV 51 (.aa (tm 0)),
 iV 52 (.load none (tm 3)),
 iC 53 51 [(tm 51), (tm 52)],
 iV 2 (.aa (tm 53))])
 .ret)
 (.seq
 (.region [iV 55 (.eq false (.aG 1) (tm 19) (kI 4)),
 iV 54 (.aa (tm 55))])
 (.cond (.tmp 54)
 (.seq
 (.region [iV 56 (.aa (tm 0)),
 iV 57 (.load none (tm 3)),
 iC 58 52 [(tm 56), (tm 57)],
 iV 2 (.aa (tm 58))])
 .ret)
 (.seq
 (.region [iV 60 (.eq false (.aG 1) (tm 19) (kI 5)),
 iV 59 (.aa (tm 60))])
 (.cond (.tmp 59)
 (.seq
 (.region [iV 61 (.load none (.const (.ptr 0 0))),
 iV 62 (.BL 54 [] [(tm 3)]),
 iC 63 53 [(tm 61), (tm 62)],
 iV 7 (.aa (tm 63))])
 (.seq
 (.seq
 (.region [iV 64 (.aa (tm 7)),
 iV 65 (.bin .lss (tm 64) (kI 0))])
 (.cond (.tmp 65)
 (.seq
 (.region [iV 2 (.aa (kI 6))])
 .ret)
 .skip))
 (.region [iV 66 (.aa (tm 0)),
 iV 67 (.load none (.const (.ptr 0 0))),
 iV 68 (.aa (tm 7)),
 iV 69 (.cS 1 (tm 67) (tm 68)),
 iV 70 (.load none (tm 69)),
 iV 71 (.cD (tm 70)),
 iC 72 28 [(tm 66), (kI 4), (tm 71), (kI 0)]])))
 (.seq
 (.region [iV 2 (.aa (kI 6))])
 .ret)))))))))))))
 (.seq
 (.region [iV 2 (.aa (kI 0))])
 .ret)))),
 [.tmp 2]⟩
theorem aaS : bP Tryd.prog G Tryd.f27 = some gB := by kernel_rfl
/- (*balustrade/lex.scanner).put -/
abbrev fN : Nat := 28
def ey : au :=
 ⟨47,
 (.seq
 (.draw [iV 8 (.aa (tm 0)),
 iV 9 (.aa (tm 0)),
 iV 10 (.cy (tm 9)),
 iV 11 (.aj 2 (tm 10)),
 iV 12 (.load none (tm 11)),
 iV 13 (.aa (tm 1)),
 iV 14 (.aa (tm 0)),
 iV 15 (.cy (tm 14)),
 iV 16 (.aj 0 (tm 15)),
 iV 17 (.load none (tm 16)),
 iV 18 (.aa (tm 0)),
 iV 19 (.cy (tm 18)),
 iV 20 (.aj 1 (tm 19)),
 iV 21 (.load none (tm 20)),
 iV 22 (.aa (tm 0)),
 iV 23 (.cy (tm 22)),
 iV 24 (.aj 1 (tm 23)),
 iV 25 (.load none (tm 24)),
 iV 26 (.aa (tm 2)),
 iV 27 (.bin .add (tm 25) (tm 26)),
 iV 28 (.gd (tm 17) (some (tm 21)) (some (tm 27))),
 iV 29 (.aa (tm 3)),
 iV 30 (.aa (tm 0)),
 iV 31 (.cy (tm 30)),
 iV 32 (.aj 1 (tm 31)),
 iV 33 (.load none (tm 32)),
 iV 34 (.build [(.int .i64 0), (.str []), (.int .i64 0), (.int .i64 0)] [(0, 1, (tm 13)), (1, 1, (tm 28)), (2, 1, (tm 29)), (3, 1, (tm 33))]),
 iV 35 (.bt 36 4 1 [(.int .i64 0), (.str []), (.int .i64 0), (.int .i64 0)] [(0, (tm 34))]),
 iV 36 (.append 36 4 40 (tm 12) (tm 35)),
 iV 37 (.cy (tm 8)),
 iV 38 (.aj 2 (tm 37)),
 iN (.store 1 (tm 38) (tm 36))] [])
 (.region [iV 39 (.aa (tm 0)),
 iV 40 (.cy (tm 39)),
 iV 41 (.aj 1 (tm 40)),
 iV 42 (.load none (tm 41)),
 iV 43 (.aa (tm 2)),
 iV 44 (.bin .add (tm 42) (tm 43)),
 iV 45 (.cy (tm 39)),
 iV 46 (.aj 1 (tm 45)),
 iN (.store 1 (tm 46) (tm 44))])),
 []⟩
theorem aaR : bP Tryd.prog G Tryd.f28 = some ey := by kernel_rfl
/- (*balustrade/expr.Reader).fine -/
abbrev iZ : Nat := 29
def bq : au :=
 ⟨9,
 (.seq
 (.region [iV 2 (.aa (.const (.bool false)))])
 (.seq
 (.region [iV 3 (.aa (tm 0)),
 iV 4 (.cy (tm 3)),
 iV 5 (.aj 5 (tm 4)),
 iV 6 (.aj 0 (tm 5)),
 iV 7 (.load none (tm 6)),
 iV 8 (.eq false (.aG 1) (tm 7) (kI 0)),
 iV 2 (.aa (tm 8))])
 .ret)),
 [.tmp 2]⟩
theorem aaQ : bP Tryd.prog G Tryd.f29 = some bq := by kernel_rfl
/- (*balustrade/expr.Reader).Want -/
abbrev aP : Nat := 30
def dm : au :=
 ⟨17,
 (.seq
 (.region [iV 4 (.aa (.const (.bool false)))])
 (.seq
 (.region [iV 6 (.aa (tm 0)),
 iV 7 (.aa (tm 1)),
 iC 8 56 [(tm 6), (tm 7)],
 iV 5 (.aa (tm 8))])
 (.seq
 (.seq
 (.region [iV 9 (.aa (tm 5)),
 iV 10 (.un .not (tm 9))])
 (.cond (.tmp 10)
 (.region [iV 11 (.aa (tm 0)),
 iV 12 (.aa (tm 0)),
 iC 13 15 [(tm 12)],
 iV 14 (.AX none 3 (tm 13)),
 iC 15 17 [(tm 11), (kI 8), (tm 14)]])
 .skip))
 (.seq
 (.region [iV 16 (.aa (tm 5)),
 iV 4 (.aa (tm 16))])
 .ret)))),
 [.tmp 4]⟩
theorem aaP : bP Tryd.prog G Tryd.f30 = some dm := by kernel_rfl
/- (*balustrade/expr.Reader).Name -/
abbrev eK : Nat := 31
def cJ : au :=
 ⟨20,
 (.seq
 (.region [iV 2 (.aa (kS []))])
 (.seq
 (.seq
 (.region [iV 3 (.aa (tm 0)),
 iC 4 29 [(tm 3)],
 iV 5 (.un .not (tm 4)),
 iV 6 (.aa (tm 5)),
 iG 7 (.aa (tm 0)) 6 false,
 iH 8 15 [(tm 7)] 6 false,
 iG 9 (.AX none 0 (tm 8)) 6 false,
 iG 10 (.eq true (.aG 1) (tm 9) (kI 1)) 6 false,
 iV 11 (.pick (tm 6) (.const (.bool true)) (tm 10))])
 (.cond (.tmp 11)
 (.seq
 (.region [iV 12 (.aa (tm 0)),
 iV 13 (.aa (tm 0)),
 iC 14 15 [(tm 13)],
 iV 15 (.AX none 3 (tm 14)),
 iC 16 17 [(tm 12), (kI 8), (tm 15)]])
 (.seq
 (.region [iV 2 (.aa (kS []))])
 .ret))
 .skip))
 (.seq
 (.region [iV 17 (.aa (tm 0)),
 iC 18 57 [(tm 17)],
 iV 19 (.AX none 1 (tm 18)),
 iV 2 (.aa (tm 19))])
 .ret))),
 [.tmp 2]⟩
theorem aaO : bP Tryd.prog G Tryd.f31 = some cJ := by kernel_rfl
/- (balustrade/parse.reader).parameters -/
abbrev ke : Nat := 32
def aF : aE :=
 (.seq
 (.seq
 (.region [iV 14 (.aa (tm 4)),
 iV 15 (.aa (tm 14)),
 iG 16 (.load (some 1) (tm 1)) 15 true,
 iH 17 14 [(tm 16)] 15 true,
 iV 18 (.pick (tm 15) (tm 17) (.const (.bool false)))])
 (.cond (.tmp 18)
 .skip
 (.exit 0)))
 (.seq
 (.block 1
 (.seq
 (.region [iV 22 (.aj 0 (tm 1)),
 iV 23 (.load none (tm 22)),
 iC 24 15 [(tm 23)],
 iV 25 (.AX none 3 (tm 24)),
 iV 5 (.aa (tm 25))])
 (.seq
 (.region [iV 26 (.aj 0 (tm 1)),
 iV 27 (.load none (tm 26)),
 iC 28 31 [(tm 27)],
 iV 6 (.aa (tm 28))])
 (.seq
 (.seq
 (.region [iV 29 (.aa (tm 3)),
 iV 30 (.len (tm 29)),
 iV 31 (.eq false (.aG 1) (tm 30) (kI 8))])
 (.cond (.tmp 31)
 (.region [iV 32 (.aj 0 (tm 1)),
 iV 33 (.load none (tm 32)),
 iV 34 (.aa (tm 5)),
 iC 35 17 [(tm 33), (kI 3), (tm 34)]])
 .skip))
 (.draw [iV 36 (.aa (tm 3)),
 iV 37 (.aj 0 (tm 1)),
 iV 38 (.load none (tm 37)),
 iV 39 (.aa (tm 6)),
 iV 40 (.load (some 1) (tm 1)),
 iC 41 33 [(tm 40)],
 iV 42 (.aa (tm 5)),
 iV 43 (.build [(.int .i64 0), .ae, (.int .i64 0), (.str []), (.int .i64 0)] [(0, 1, (kI 24)), (3, 1, (tm 39)), (2, 1, (tm 41)), (4, 1, (tm 42))]),
 iC 44 19 [(tm 38), (tm 43)],
 iV 45 (.bt 3 1 1 [(.int .i64 0)] [(0, (tm 44))]),
 iV 46 (.append 3 1 8 (tm 36) (tm 45)),
 iV 3 (.aa (tm 46))] [(2, 5)])))))
 (.region [iV 19 (.aj 0 (tm 1)),
 iV 20 (.load none (tm 19)),
 iC 21 56 [(tm 20), (kS [44])],
 iV 4 (.aa (tm 21))])))
def bU : au :=
 ⟨51,
 (.seq
 (.region [iV 1 (.box 45 (tm 0)),
 iV 2 (.aa (.const .ae))])
 (.seq
 (.region [iV 7 (.aj 0 (tm 1)),
 iV 8 (.load none (tm 7)),
 iC 9 30 [(tm 8), (kS [40])]])
 (.seq
 (.region [iV 3 (.aa (.const .ae))])
 (.seq
 (.seq
 (.region [iV 10 (.aj 0 (tm 1)),
 iV 11 (.load none (tm 10)),
 iC 12 16 [(tm 11), (kS [41])],
 iV 13 (.un .not (tm 12)),
 iV 4 (.aa (tm 13))])
 (.block 0
 (.loop aF)))
 (.seq
 (.region [iV 47 (.aj 0 (tm 1)),
 iV 48 (.load none (tm 47)),
 iC 49 30 [(tm 48), (kS [41])]])
 (.seq
 (.region [iV 50 (.aa (tm 3)),
 iV 2 (.aa (tm 50))])
 .ret)))))),
 [.tmp 2]⟩
theorem aaN : bP Tryd.prog G Tryd.f32 = some bU := by kernel_rfl
/- (balustrade/parse.reader).kind -/
abbrev iu : Nat := 33
def dj : aE :=
 (.seq
 (.region [iV 8 (.bin .lss (tm 7) (tm 6))])
 (.seq
 (.cond (.tmp 8)
 .skip
 (.exit 0))
 (.seq
 (.block 1
 (.seq
 (.region [iV 9 (.aa (tm 7)),
 iV 10 (.cS 1 (tm 5) (tm 7)),
 iV 11 (.load none (tm 10)),
 iV 3 (.aa (tm 9)),
 iV 4 (.aa (tm 11))])
 (.seq
 (.region [iV 12 (.aj 0 (tm 1)),
 iV 13 (.load none (tm 12)),
 iV 14 (.aa (tm 4)),
 iC 15 56 [(tm 13), (tm 14)]])
 (.cond (.tmp 15)
 (.seq
 (.region [iV 16 (.aa (tm 3)),
 iV 17 (.bin .add (tm 16) (kI 1)),
 iV 2 (.aa (tm 17))])
 .ret)
 .skip))))
 (.region [iV 18 (.bin .add (tm 7) (kI 1)),
 iV 7 (.aa (tm 18))]))))
def dF : au :=
 ⟨26,
 (.seq
 (.region [iV 1 (.box 45 (tm 0)),
 iV 2 (.aa (kI 0))])
 (.seq
 (.seq
 (.region [iV 5 (.bt 9 1 3 [(.str [])] [(0, (kS [105, 110, 116])), (1, (kS [98, 111, 111, 108])), (2, (kS [97, 114, 114]))]),
 iV 6 (.len (tm 5)),
 iV 7 (.aa (kI 0))])
 (.block 0
 (.loop dj)))
 (.seq
 (.draw [iV 19 (.aj 0 (tm 1)),
 iV 20 (.load none (tm 19)),
 iV 21 (.aj 0 (tm 1)),
 iV 22 (.load none (tm 21)),
 iC 23 15 [(tm 22)],
 iV 24 (.AX none 3 (tm 23)),
 iC 25 17 [(tm 20), (kI 8), (tm 24)]] [(1, 4)])
 (.seq
 (.region [iV 2 (.aa (kI 0))])
 .ret)))),
 [.tmp 2]⟩
theorem aaM : bP Tryd.prog G Tryd.f33 = some dF := by kernel_rfl
/- (balustrade/parse.reader).block -/
abbrev eP : Nat := 34
def dS : aE :=
 (.seq
 (.seq
 (.region [iV 20 (.aj 0 (tm 1)),
 iV 21 (.load none (tm 20)),
 iC 22 56 [(tm 21), (kS [125])],
 iV 23 (.un .not (tm 22))])
 (.cond (.tmp 23)
 .skip
 (.exit 0)))
 (.block 1
 (.seq
 (.region [iV 24 (.aa (tm 4)),
 iV 25 (.load (some 1) (tm 1)),
 iC 26 59 [(tm 25)],
 iV 27 (.bt 3 1 1 [(.int .i64 0)] [(0, (tm 26))]),
 iV 28 (.append 3 1 8 (tm 24) (tm 27)),
 iV 4 (.aa (tm 28))])
 (.seq
 (.region [iV 29 (.load (some 1) (tm 1)),
 iC 30 14 [(tm 29)],
 iV 31 (.un .not (tm 30))])
 (.cond (.tmp 31)
 (.exit 0)
 .skip)))))
def da : au :=
 ⟨41,
 (.seq
 (.region [iV 1 (.box 45 (tm 0)),
 iV 2 (.aa (kI 0))])
 (.seq
 (.region [iV 5 (.aj 0 (tm 1)),
 iV 6 (.load none (tm 5)),
 iC 7 15 [(tm 6)],
 iV 8 (.AX none 3 (tm 7)),
 iV 3 (.aa (tm 8))])
 (.seq
 (.seq
 (.region [iV 9 (.aj 0 (tm 1)),
 iV 10 (.load none (tm 9)),
 iC 11 30 [(tm 10), (kS [123])],
 iV 12 (.un .not (tm 11)),
 iV 13 (.aa (tm 12)),
 iG 14 (.aj 0 (tm 1)) 13 false,
 iG 15 (.load none (tm 14)) 13 false,
 iG 16 (.aa (tm 3)) 13 false,
 iH 17 58 [(tm 15), (tm 16)] 13 false,
 iG 18 (.un .not (tm 17)) 13 false,
 iV 19 (.pick (tm 13) (.const (.bool true)) (tm 18))])
 (.cond (.tmp 19)
 (.seq
 (.region [iV 2 (.aa (kI (-1)))])
 .ret)
 .skip))
 (.seq
 (.region [iV 4 (.aa (.const .ae))])
 (.seq
 .skip
 (.seq
 (.block 0
 (.loop dS))
 (.seq
 (.region [iV 32 (.aj 0 (tm 1)),
 iV 33 (.load none (tm 32)),
 iC 34 60 [(tm 33)]])
 (.seq
 (.region [iV 35 (.aj 0 (tm 1)),
 iV 36 (.load none (tm 35)),
 iV 37 (.aa (tm 4)),
 iV 38 (.aa (tm 3)),
 iV 39 (.build [(.int .i64 0), .ae, (.int .i64 0), (.str []), (.int .i64 0)] [(0, 1, (kI 23)), (1, 1, (tm 37)), (4, 1, (tm 38))]),
 iC 40 19 [(tm 36), (tm 39)],
 iV 2 (.aa (tm 40))])
 .ret)))))))),
 [.tmp 2]⟩
theorem aaL : bP Tryd.prog G Tryd.f34 = some da := by kernel_rfl
/- slices.Clone[[]balustrade/api.Node,balustrade/api.Node] -/
abbrev rF : Nat := 35
def ct : au :=
 ⟨8,
 (.seq
 (.region [iV 2 (.aa (.const .ae))])
 (.seq
 (.seq
 (.region [iV 3 (.aa (tm 0)),
 iV 4 (.eq false (.aG 4) (tm 3) (.const .ae))])
 (.cond (.tmp 4)
 (.seq
 (.region [iV 2 (.aa (.const .ae))])
 .ret)
 .skip))
 (.seq
 (.region [iV 5 (.bt 39 5 0 [(.int .i64 0), .ae, (.int .i64 0), (.str []), (.int .i64 0)] []),
 iV 6 (.aa (tm 0)),
 iV 7 (.append 39 5 64 (tm 5) (tm 6)),
 iV 2 (.aa (tm 7))])
 .ret))),
 [.tmp 2]⟩
theorem aaK : bP Tryd.prog G Tryd.f35 = some ct := by kernel_rfl
/- balustrade/balustraderef06.own -/
abbrev WC : Nat := 36
def oS : au :=
 ⟨83,
 (.seq
 (.region [iV 1 (.box 39 (tm 0)),
 iV 2 (.aa (.const (.bool false)))])
 (.seq
 (.seq
 (.draw [iV 3 (.aj 0 (tm 1)),
 iV 4 (.load none (tm 3)),
 iV 5 (.bin .lss (tm 4) (kI 1)),
 iV 6 (.aa (tm 5)),
 iG 7 (.aj 0 (tm 1)) 6 false,
 iG 8 (.load none (tm 7)) 6 false,
 iG 9 (.bin .gtr (tm 8) (kI 26)) 6 false,
 iV 10 (.pick (tm 6) (.const (.bool true)) (tm 9)),
 iV 11 (.aa (tm 10)),
 iG 12 (.aj 4 (tm 1)) 11 false,
 iG 13 (.load none (tm 12)) 11 false,
 iG 14 (.bin .lss (tm 13) (kI 0)) 11 false,
 iV 15 (.pick (tm 11) (.const (.bool true)) (tm 14)),
 iV 16 (.aa (tm 15)),
 iG 17 (.aj 0 (tm 1)) 16 false,
 iG 18 (.load none (tm 17)) 16 false,
 iH 19 61 [(tm 18)] 16 false,
 iG 20 (.aj 3 (tm 1)) 16 false,
 iG 21 (.load none (tm 20)) 16 false,
 iG 22 (.eq true (.aG 2) (tm 21) (kS [])) 16 false,
 iG 23 (.eq true (.aG 0) (tm 19) (tm 22)) 16 false,
 iV 24 (.pick (tm 16) (.const (.bool true)) (tm 23)),
 iV 25 (.aa (tm 24)),
 iG 26 (.aj 3 (tm 1)) 25 false,
 iG 27 (.load none (tm 26)) 25 false,
 iG 28 (.eq true (.aG 2) (tm 27) (kS [])) 25 false,
 iG 29 (.aa (tm 28)) 25 false,
 iG 30 (.aj 3 (tm 1)) 29 true,
 iG 31 (.load none (tm 30)) 29 true,
 iH 32 62 [(tm 31)] 29 true,
 iG 33 (.un .not (tm 32)) 29 true,
 iG 34 (.pick (tm 29) (tm 33) (.const (.bool false))) 25 false,
 iV 35 (.pick (tm 25) (.const (.bool true)) (tm 34))] [(18, 16)])
 (.cond (.tmp 35)
 (.seq
 (.region [iV 2 (.aa (.const (.bool false)))])
 .ret)
 .skip))
 (.seq
 (.seq
 (.region [iV 36 (.aj 0 (tm 1)),
 iV 37 (.load none (tm 36)),
 iV 38 (.eq false (.aG 1) (tm 37) (kI 1))])
 (.cond (.tmp 38)
 (.seq
 (.region [iV 39 (.aj 2 (tm 1)),
 iV 40 (.load none (tm 39)),
 iV 41 (.bin .geq (tm 40) (kI 0)),
 iV 2 (.aa (tm 41))])
 .ret)
 .skip))
 (.seq
 (.seq
 (.region [iV 42 (.aj 0 (tm 1)),
 iV 43 (.load none (tm 42)),
 iV 44 (.eq false (.aG 1) (tm 43) (kI 2))])
 (.cond (.tmp 44)
 (.seq
 (.region [iV 45 (.aj 2 (tm 1)),
 iV 46 (.load none (tm 45)),
 iV 47 (.eq false (.aG 1) (tm 46) (kI 0)),
 iV 48 (.aa (tm 47)),
 iG 49 (.aj 2 (tm 1)) 48 false,
 iG 50 (.load none (tm 49)) 48 false,
 iG 51 (.eq false (.aG 1) (tm 50) (kI 1)) 48 false,
 iV 52 (.pick (tm 48) (.const (.bool true)) (tm 51)),
 iV 2 (.aa (tm 52))])
 .ret)
 .skip))
 (.seq
 (.seq
 (.region [iV 53 (.aj 0 (tm 1)),
 iV 54 (.load none (tm 53)),
 iV 55 (.eq false (.aG 1) (tm 54) (kI 5))])
 (.cond (.tmp 55)
 (.seq
 (.region [iV 56 (.aj 2 (tm 1)),
 iV 57 (.load none (tm 56)),
 iV 58 (.bin .geq (tm 57) (kI 1)),
 iV 59 (.aa (tm 58)),
 iG 60 (.aj 2 (tm 1)) 59 true,
 iG 61 (.load none (tm 60)) 59 true,
 iG 62 (.bin .leq (tm 61) (kI 16)) 59 true,
 iV 63 (.pick (tm 59) (tm 62) (.const (.bool false))),
 iV 2 (.aa (tm 63))])
 .ret)
 .skip))
 (.seq
 (.seq
 (.region [iV 64 (.aj 0 (tm 1)),
 iV 65 (.load none (tm 64)),
 iV 66 (.eq false (.aG 1) (tm 65) (kI 24)),
 iV 67 (.aa (tm 66)),
 iG 68 (.aj 0 (tm 1)) 67 false,
 iG 69 (.load none (tm 68)) 67 false,
 iG 70 (.eq false (.aG 1) (tm 69) (kI 25)) 67 false,
 iV 71 (.pick (tm 67) (.const (.bool true)) (tm 70))])
 (.cond (.tmp 71)
 (.seq
 (.region [iV 72 (.aj 2 (tm 1)),
 iV 73 (.load none (tm 72)),
 iV 74 (.bin .geq (tm 73) (kI 1)),
 iV 75 (.aa (tm 74)),
 iG 76 (.aj 2 (tm 1)) 75 true,
 iG 77 (.load none (tm 76)) 75 true,
 iG 78 (.bin .leq (tm 77) (kI 3)) 75 true,
 iV 79 (.pick (tm 75) (tm 78) (.const (.bool false))),
 iV 2 (.aa (tm 79))])
 .ret)
 .skip))
 (.seq
 (.region [iV 80 (.aj 2 (tm 1)),
 iV 81 (.load none (tm 80)),
 iV 82 (.eq false (.aG 1) (tm 81) (kI 0)),
 iV 2 (.aa (tm 82))])
 .ret))))))),
 [.tmp 2]⟩
theorem aaJ : bP Tryd.prog G Tryd.f36 = some oS := by kernel_rfl
end
end Go.Proofs.YtdiccmapankckaaDoor.Ev
