/- Operations whose order Go leaves open: the induction over whatever order. -/
import Derived.Test.YthlbifjgnhdonaaEvDraws
namespace Go.Proofs.Ythlbifjgnhdonaa.Ev
open Go
section
variable {P : Program} {G : List Nat} {n : Nat} {call : Call}

theorem srt_le (op : IOp) : srt op ≤ 3 := by
  cases op <;> simp [srt]
  case conv c x => cases c <;> simp
theorem sort_le (op : XOp) : sort op ≤ 3 := by
  cases op <;> simp only [sort] <;> first | exact srt_le _ | omega
theorem make_any {f : Opd → EV} {op : IOp} (hs : srt op = 1) {m m1 : Mem} {v : EV} (h : evOp f op m = some (.val v m1)) : ∃ (B : Blk) (mk : Nat → EV), v = mk m.next ∧ m1 = m.new B ∧ ∀ m', evOp f op m' = some (.val (mk m'.next) (m'.new B)) := by
  cases op <;> (try simp only [srt] at hs) <;> (try (simp at hs; done))
  case alloc e z =>
    simp only [evOp, Option.some.injEq, R1.val.injEq] at h ⊢
    exact ⟨.cells z z.length e false, fun k => .ptr k 0, h.1.symm, h.2.symm, fun m' => ⟨rfl, rfl⟩⟩
  case box e x =>
    simp only [evOp] at h ⊢
    cases hc : (f x).cells with
    | none => simp [hc] at h
    | some cs =>
      simp only [hc, Option.some.injEq, R1.val.injEq] at h ⊢
      exact ⟨.cells cs cs.length e false, fun k => .ptr k 0, h.1.symm, h.2.symm, fun m' => ⟨rfl, rfl⟩⟩
  case bslice e s len z ps =>
    simp only [evOp] at h ⊢
    cases hc : fillIn (copies len z) (ps.map fun p => (p.1 * s, s, f p.2)) with
    | none => simp [hc] at h
    | some cs =>
      simp only [hc, Option.some.injEq, R1.val.injEq] at h ⊢
      exact ⟨.cells cs s e false, fun k => .slice k 0 len (some len), h.1.symm, h.2.symm, fun m' => ⟨rfl, rfl⟩⟩
  case mkmap =>
    simp only [evOp, Option.some.injEq, R1.val.injEq] at h ⊢
    exact ⟨.map [], fun k => .map k, h.1.symm, h.2.symm, fun m' => ⟨rfl, rfl⟩⟩
  case mkslice e s z l c =>
    simp only [evOp, Bool.cond_eq_ite] at h ⊢
    generalize f l = el at h ⊢
    generalize f c = ec at h ⊢
    split at h
    · rename_i ln cn
      split at h
      · rename_i hq
        split at h
        · rename_i hq2
          simp only [Option.some.injEq, R1.val.injEq] at h
          exact ⟨.cells (copies cn z) s e false, fun k => .slice k 0 ln (some cn), h.1.symm, h.2.symm, fun m' => by rw [if_pos hq, if_pos hq2]⟩
        · cases h
      · cases h
    · cases h
  case conv c x =>
    cases c <;> (try (simp at hs; done))
    rename_i e
    simp only [evOp] at h ⊢
    have h1 := ofEM_val h
    generalize f x = ex at h1 ⊢
    cases ex <;> simp only [evConv, reduceCtorEq, Option.some.injEq, Prod.mk.injEq] at h1
    rename_i s
    exact ⟨.cells (s.map fun b => .int .u8 (b.toNat : Int)) 1 e false, fun k => .slice k 0 s.length none, h1.1.symm, h1.2.symm, fun m' => rfl⟩
theorem load_ptr {m : Mem} {agg : Option Nat} {x v : EV} (h : m.load agg x = some v) : ∃ b off, x = .ptr b off ∧ m.get b ≠ .dead := by
  cases x <;> simp only [Mem.load, reduceCtorEq] at h
  rename_i b off
  refine ⟨b, off, rfl, fun e => ?_⟩
  rw [e] at h
  cases h
theorem load_opd {o : Oper} {io : IOp} (hc : cOp P G o = some io) (hs : srt io = 2) : ∃ agg x x0, io = .load agg x ∧ cOpd G x0 = some x := by
  unfold cOp at hc
  split at hc
  case h_1 => obtain ⟨_, _, rfl⟩ := map_some' hc; simp [srt] at hs
  case h_2 => obtain ⟨_, _, rfl⟩ := map_some' hc; simp [srt] at hs
  case h_3 => obtain ⟨_, _, hc⟩ := bind_of hc; obtain ⟨_, _, hc⟩ := bind_of hc; obtain ⟨_, _, rfl⟩ := map_some' hc; simp [srt] at hs
  case h_4 => obtain ⟨_, _, rfl⟩ := map_some' hc; simp [srt] at hs
  case h_5 => obtain ⟨_, _, rfl⟩ := map_some' hc; simp [srt] at hs
  case h_6 =>
    obtain ⟨_, _, hc⟩ := bind_of hc
    rcases or1_of hc with hc | hc
    · obtain ⟨_, _, hc⟩ := bind_of hc; obtain ⟨_, _, hc⟩ := bind_of hc; obtain ⟨_, _, rfl⟩ := map_some' hc; simp [srt] at hs
    · obtain ⟨_, _, hc⟩ := bind_of hc; obtain ⟨_, _, hc⟩ := bind_of hc; obtain ⟨_, _, rfl⟩ := map_some' hc; simp [srt] at hs
  case h_7 => obtain ⟨_, _, hc⟩ := bind_of hc; obtain ⟨_, _, hc⟩ := bind_of hc; obtain ⟨_, _, hc⟩ := bind_of hc; obtain ⟨_, _, hc⟩ := bind_of hc; obtain ⟨_, _, hc⟩ := bind_of hc; obtain ⟨_, _, rfl⟩ := map_some' hc; simp [srt] at hs
  case h_8 => obtain ⟨_, _, hc⟩ := bind_of hc; obtain ⟨x, hx, rfl⟩ := map_some' hc; exact ⟨_, x, _, rfl, hx⟩
  case h_9 => obtain ⟨_, _, hc⟩ := bind_of hc; obtain ⟨_, _, hc⟩ := bind_of hc; obtain ⟨_, _, rfl⟩ := map_some' hc; simp [srt] at hs
  case h_10 => obtain ⟨_, _, rfl⟩ := map_some' hc; simp [srt] at hs
  case h_11 op t x y yt ho =>
    obtain ⟨_, _, hc⟩ := bind_of hc; obtain ⟨_, _, hc⟩ := bind_of hc
    split at hc
    · unfold cEq at hc
      simp only [Bool.cond_eq_ite] at hc
      split at hc <;> (obtain ⟨_, _, rfl⟩ := map_some' hc; simp [srt] at hs)
    · unfold cEq at hc
      simp only [Bool.cond_eq_ite] at hc
      split at hc <;> (obtain ⟨_, _, rfl⟩ := map_some' hc; simp [srt] at hs)
    · cases hc; simp [srt] at hs
  case h_12 => obtain ⟨_, _, rfl⟩ := map_some' hc; simp [srt] at hs
  case h_13 =>
    obtain ⟨_, _, hc⟩ := bind_of hc
    rcases or1_of hc with hc | hc
    · obtain ⟨_, _, hc⟩ := bind_of hc; obtain ⟨_, _, rfl⟩ := map_some' hc; simp [srt] at hs
    rcases or1_of hc with hc | hc
    · obtain ⟨_, _, hc⟩ := bind_of hc; obtain ⟨_, _, rfl⟩ := map_some' hc; simp [srt] at hs
    rcases or1_of hc with hc | hc
    · obtain ⟨_, _, hc⟩ := bind_of hc; obtain ⟨_, _, hc⟩ := bind_of hc; obtain ⟨_, _, hc⟩ := bind_of hc; obtain ⟨_, _, rfl⟩ := map_some' hc; simp [srt] at hs
    obtain ⟨_, _, hc⟩ := bind_of hc; obtain ⟨_, _, hc⟩ := bind_of hc; obtain ⟨_, _, hc⟩ := bind_of hc; obtain ⟨_, _, rfl⟩ := map_some' hc; simp [srt] at hs
  case h_14 => obtain ⟨_, _, hc⟩ := bind_of hc; obtain ⟨_, _, rfl⟩ := map_some' hc; simp [srt] at hs
  case h_15 => obtain ⟨_, _, hc⟩ := bind_of hc; obtain ⟨_, _, rfl⟩ := map_some' hc; simp [srt] at hs
  case h_16 => obtain ⟨_, _, rfl⟩ := map_some' hc; simp [srt] at hs
  case h_17 => obtain ⟨_, _, rfl⟩ := map_some' hc; simp [srt] at hs
  case h_18 => obtain ⟨_, _, hc⟩ := bind_of hc; obtain ⟨_, _, hc⟩ := bind_of hc; obtain ⟨_, _, hc⟩ := bind_of hc; obtain ⟨_, _, hc⟩ := bind_of hc; obtain ⟨_, _, hc⟩ := bind_of hc; obtain ⟨_, _, hc⟩ := bind_of hc; obtain ⟨_, _, rfl⟩ := map_some' hc; simp [srt] at hs
  case h_19 =>
    obtain ⟨_, _, hc⟩ := bind_of hc; obtain ⟨_, _, hc⟩ := bind_of hc; obtain ⟨_, _, hc⟩ := bind_of hc; obtain ⟨_, _, hc⟩ := bind_of hc; obtain ⟨_, _, hc⟩ := bind_of hc
    rcases or1_of hc with hc | hc
    · obtain ⟨_, _, hc⟩ := bind_of hc; obtain ⟨_, _, rfl⟩ := map_some' hc; simp [srt] at hs
    rcases or1_of hc with hc | hc
    · obtain ⟨_, _, hc⟩ := bind_of hc; obtain ⟨_, _, rfl⟩ := map_some' hc; simp [srt] at hs
    · obtain ⟨_, _, hc⟩ := bind_of hc; obtain ⟨_, _, rfl⟩ := map_some' hc; simp [srt] at hs
  case h_20 => obtain ⟨_, _, hc⟩ := bind_of hc; obtain ⟨_, _, hc⟩ := bind_of hc; obtain ⟨_, _, hc⟩ := bind_of hc; obtain ⟨_, _, hc⟩ := bind_of hc; obtain ⟨_, _, rfl⟩ := map_some' hc; simp [srt] at hs
  case h_21 => obtain ⟨_, _, hc⟩ := bind_of hc; obtain ⟨_, _, hc⟩ := bind_of hc; obtain ⟨_, _, hc⟩ := bind_of hc; obtain ⟨_, _, rfl⟩ := map_some' hc; simp [srt] at hs
  case h_22 =>
    obtain ⟨_, _, hc⟩ := bind_of hc; obtain ⟨_, _, hc⟩ := bind_of hc
    rcases or1_of hc with hc | hc
    · obtain ⟨_, _, hc⟩ := bind_of hc; obtain ⟨_, _, rfl⟩ := map_some' hc; simp [srt] at hs
    · obtain ⟨_, _, hc⟩ := bind_of hc; obtain ⟨_, _, rfl⟩ := map_some' hc; simp [srt] at hs
  case h_23 =>
    obtain ⟨_, _, hc⟩ := bind_of hc; obtain ⟨_, _, hc⟩ := bind_of hc
    rcases or1_of hc with hc | hc
    · obtain ⟨_, _, rfl⟩ := map_some' hc; simp [srt] at hs
    · obtain ⟨_, _, hc⟩ := bind_of hc; obtain ⟨_, _, hc⟩ := bind_of hc; obtain ⟨_, _, rfl⟩ := map_some' hc; simp [srt] at hs
  case h_24 => obtain ⟨_, _, hc⟩ := bind_of hc; obtain ⟨_, _, hc⟩ := bind_of hc; obtain ⟨_, _, hc⟩ := bind_of hc; obtain ⟨_, _, hc⟩ := bind_of hc; obtain ⟨_, _, rfl⟩ := map_some' hc; simp [srt] at hs
  case h_25 => obtain ⟨_, _, hc⟩ := bind_of hc; obtain ⟨_, _, hc⟩ := bind_of hc; obtain ⟨_, _, hc⟩ := bind_of hc; obtain ⟨_, _, hc⟩ := bind_of hc; obtain ⟨_, _, rfl⟩ := map_some' hc; simp [srt] at hs
  case h_26 => obtain ⟨_, _, hc⟩ := bind_of hc; obtain ⟨_, _, hc⟩ := bind_of hc; obtain ⟨_, _, hc⟩ := bind_of hc; obtain ⟨_, _, hc⟩ := bind_of hc; obtain ⟨_, _, rfl⟩ := map_some' hc; simp [srt] at hs
  case h_27 => obtain ⟨_, _, hc⟩ := bind_of hc; obtain ⟨_, _, rfl⟩ := map_some' hc; simp [srt] at hs
  case h_28 => obtain ⟨_, _, rfl⟩ := map_some' hc; simp [srt] at hs
  case h_29 c ho =>
    obtain ⟨ys, hys, hc⟩ := bind_of hc
    split at hc
    · exfalso
      unfold cBuiltin at hc
      simp only [Bool.cond_eq_ite] at hc
      split at hc
      · split at hc <;> first | (cases hc; simp [srt] at hs; done) | cases hc
      · split at hc <;> first | (cases hc; simp [srt] at hs; done) | cases hc
      · cases hc; simp [srt] at hs
      · cases hc; simp [srt] at hs
      · obtain ⟨_, _, hc⟩ := bind_of hc
        obtain ⟨_, _, hc⟩ := bind_of hc
        obtain ⟨_, _, hc⟩ := bind_of hc
        obtain ⟨_, _, hc⟩ := bind_of hc
        obtain ⟨_, _, hc⟩ := bind_of hc
        split at hc <;> first | (cases hc; simp [srt] at hs; done) | cases hc
      · split at hc
        · split at hc <;> first | (cases hc; simp [srt] at hs; done) | cases hc
        · cases hc
      · split at hc
        · obtain ⟨_, _, rfl⟩ := map_some' hc; simp [srt] at hs
        · cases hc
      · cases hc
    · cases hc
  case h_30 => cases hc
theorem named_opd {o : IOper} {x : Opd} (hx : x ∈ xopds o.op) : ∀ t, x = .tmp t → t ∈ named o := by
  intro t ht
  subst ht
  unfold named
  have : t ∈ tmpsOf (xopds o.op) := by
    generalize xopds o.op = l at hx
    induction l with
    | nil => simp at hx
    | cons y l ih =>
      rcases List.mem_cons.1 hx with e | hx2
      · subst e; simp [tmpsOf]
      · cases y with
        | tmp s => simp only [tmpsOf]; exact List.mem_cons_of_mem _ (ih hx2)
        | const v => simp only [tmpsOf]; exact ih hx2
  simp [this]
theorem named_guard {o : IOper} {t : Nat} {b : Bool} (h : o.guard = some (t, b)) : t ∈ named o := by unfold named; simp [h]
theorem named_dst {o : IOper} {t : Nat} (h : o.dst = some t) : t ∈ named o := by unfold named; simp [h]

/-- All that is known of the region, and of what the text's order does. -/
structure Cx (P : Program) (G : List Nat) (n : Nat) (call : Call) (ops : Array Oper) (is : List IOper) (chk : List (Nat × Nat)) (B0 : Nat) (F : Nat → Fr) (M : Nat → Mem) (V : Nat → EV) : Prop where
  comp : ∀ (i : Nat) (io : IOper), is[i]? = some io → ∃ o, ops[i]? = some o ∧ cOper P G n ops o = some io
  at_ : ∀ (k : Nat) (o : IOper), is[k]? = some o → At call B0 o k (F k) (M k) (V k) (M (k + 1)) ∧ F (k + 1) = (F k).put o.dst (V k)
  c1 : ∀ (k : Nat) (o : IOper) (agg : Option Nat) (a : Opd) (l : Nat) (q : IOper), is[k]? = some o → is[l]? = some q → Loads o (F k) agg a → Acts q (F l) → hasPair k l chk = true →
    (l < k → (M l).stands agg ((F k).eval a) (V k) = true) ∧ (k < l → (M (l + 1)).stands agg ((F k).eval a) (V k) = true)
  open_ : ∀ (i j : Nat) (io jo : IOper), i < j → is[i]? = some io → is[j]? = some jo → i ∉ (befores ops.toList []).getD j [] →
    ¬ (sort io.op = 3 ∧ sort jo.op = 3) ∧ (∀ t, io.dst = some t → t ∉ named jo) ∧ (∀ t, jo.dst = some t → t ∉ named io) ∧ (sort io.op = 2 → sort jo.op = 3 → hasPair i j chk = true) ∧ (sort io.op = 3 → sort jo.op = 2 → hasPair j i chk = true)

variable {ops : Array Oper} {is : List IOper} {chk : List (Nat × Nat)} {B0 : Nat} {F : Nat → Fr} {M : Nat → Mem} {V : Nat → EV}

/-- The value of a temporary when these operations have been done. -/
def curU (is : List IOper) (F : Nat → Fr) (V : Nat → EV) (S : List Nat) (t : Nat) : Nat → EV
  | 0 => (F 0).get t
  | k + 1 => if k ∈ S ∧ (is[k]?).bind (·.dst) = some t then V k else curU is F V S t k
theorem curU_text (C : Cx P G n call ops is chk B0 F M V) (S : List Nat) (t : Nat) : ∀ k, k ≤ is.length → (∀ j o, j < k → is[j]? = some o → o.dst = some t → j ∈ S) → curU is F V S t k = (F k).get t
  | 0, _, _ => rfl
  | k + 1, hk, h => by
    have hlt : k < is.length := by omega
    have ho : is[k]? = some is[k] := List.getElem?_eq_getElem hlt
    obtain ⟨_, hF⟩ := C.at_ k _ ho
    simp only [curU, ho, Option.bind_some]
    rw [hF]
    by_cases hd : is[k].dst = some t
    · rw [if_pos ⟨h k _ (by omega) ho hd, hd⟩, hd]
      simp only [Fr.put, Fr.get_set, if_true]
    · rw [if_neg (fun e => hd e.2), curU_text C S t k (by omega) (fun j o hj => h j o (by omega))]
      cases hdd : is[k].dst with
      | none => rfl
      | some u =>
        simp only [Fr.put, Fr.get_set]
        rw [if_neg]
        intro e; subst e; exact hd hdd
theorem curU_stop (S : List Nat) (t : Nat) : ∀ d k, (∀ j o, k ≤ j → j < k + d → is[j]? = some o → o.dst = some t → j ∉ S) → curU is F V S t (k + d) = curU is F V S t k
  | 0, k, _ => rfl
  | d + 1, k, h => by
    rw [← Nat.add_assoc]
    simp only [curU]
    rw [if_neg]
    · exact curU_stop S t d k fun j o h1 h2 => h j o h1 (by omega)
    · rintro ⟨h1, h2⟩
      cases ho : is[k + d]? with
      | none => rw [ho] at h2; cases h2
      | some o => rw [ho] at h2; exact h (k + d) o (by omega) (by omega) ho h2 h1
theorem curU_same {S S' : List Nat} (t : Nat) : ∀ k, (∀ j o, j < k → is[j]? = some o → o.dst = some t → (j ∈ S ↔ j ∈ S')) → curU is F V S t k = curU is F V S' t k
  | 0, _ => rfl
  | k + 1, h => by
    simp only [curU]
    rw [curU_same t k fun j o hj => h j o (by omega)]
    cases ho : is[k]? with
    | none => simp
    | some o =>
      simp only [Option.bind_some]
      by_cases hd : o.dst = some t
      · have := h k o (by omega) ho hd
        by_cases hk : k ∈ S
        · rw [if_pos ⟨hk, hd⟩, if_pos ⟨this.1 hk, hd⟩]
        · rw [if_neg (fun e => hk e.1), if_neg (fun e => hk (this.2 e.1))]
      · rw [if_neg (fun e => hd e.2), if_neg (fun e => hd e.2)]

/-- An operation that makes a block, in the text's order. -/
def MakeAt (is : List IOper) (B0 : Nat) (F : Nat → Fr) (M : Nat → Mem) (j : Nat) (B : Blk) : Prop :=
  ∃ o op, is[j]? = some o ∧ o.op = .val op ∧ srt op = 1 ∧ wantedE (F j) o.guard = some true ∧ M (j + 1) = ⟨(M j).next, (M j).tbl.set (B0 + j) B⟩
theorem set_get (m : Mem) (k : Nat) (B : Blk) (b : Nat) : (⟨m.next, m.tbl.set k B⟩ : Mem).get b = if b = k then B else m.get b := by
  unfold Mem.get; simp only [Tr.get_set]; split <;> rfl
theorem MakeAt.get {j : Nat} {B : Blk} (h : MakeAt is B0 F M j B) : (M (j + 1)).get (B0 + j) = B := by
  obtain ⟨_, _, _, _, _, _, h⟩ := h
  rw [h, set_get, if_pos rfl]
theorem MakeAt.uniq {j : Nat} {B B' : Blk} (h : MakeAt is B0 F M j B) (h' : MakeAt is B0 F M j B') : B = B' := h.get.symm.trans h'.get
theorem MakeAt.no {j : Nat} {B : Blk} (h : MakeAt is B0 F M j B) {o : IOper} (ho : is[j]? = some o) (ha : Acts o (F j)) : False := by
  obtain ⟨o', op, h1, h2, h3, _⟩ := h
  rw [ho] at h1; cases h1
  have := ha.2
  rw [h2] at this
  simp only [sort] at this
  omega
theorem plain_step (C : Cx P G n call ops is chk B0 F M V) {k : Nat} {o : IOper} (ho : is[k]? = some o) (hna : ¬ Acts o (F k)) : (M (k + 1) = M k ∧ ∀ B, ¬ MakeAt is B0 F M k B) ∨ ∃ B, MakeAt is B0 F M k B := by
  obtain ⟨hat, _⟩ := C.at_ k o ho
  cases hat with
  | skip hw _ hm => exact .inl ⟨hm, fun B ⟨o', op, h1, h2, h3, h4, _⟩ => by rw [ho] at h1; cases h1; rw [hw] at h4; cases h4⟩
  | pure op m1 hw hop hs _ hm => exact .inl ⟨hm, fun B ⟨o', op', h1, h2, h3, h4, _⟩ => by rw [ho] at h1; cases h1; rw [hop] at h2; cases h2; omega⟩
  | load agg a hw hop _ hm => exact .inl ⟨hm, fun B ⟨o', op', h1, h2, h3, h4, _⟩ => by rw [ho] at h1; cases h1; rw [hop] at h2; cases h2; simp [srt] at h3⟩
  | make op m1 hw hop hs h hm =>
    obtain ⟨B, mk, _, h2, _⟩ := make_any hs h
    exact .inr ⟨B, o, op, ho, hop, hs, hw, by rw [hm, h2]; rfl⟩
  | act op hw hop hs h => exact absurd ⟨hw, by rw [hop]; exact hs⟩ hna
  | call f args hw hop h => exact absurd ⟨hw, by rw [hop]; simp [sort]⟩ hna
theorem seg (C : Cx P G n call ops is chk B0 F M V) (K : Nat) : ∀ i, K ≤ i → i ≤ is.length → (∀ e o, K ≤ e → e < i → is[e]? = some o → ¬ Acts o (F e)) →
    (M i).next = (M K).next ∧ ∀ b, (∃ j B, K ≤ j ∧ j < i ∧ MakeAt is B0 F M j B ∧ b = B0 + j ∧ (M i).get b = B) ∨ ((∀ j B, K ≤ j → j < i → MakeAt is B0 F M j B → b ≠ B0 + j) ∧ (M i).get b = (M K).get b) := by
  intro i
  induction i with
  | zero => intro h _ _; obtain rfl : K = 0 := (by omega); exact ⟨rfl, fun b => .inr ⟨fun j B h1 h2 => absurd h2 (by omega), rfl⟩⟩
  | succ i ih =>
    intro h1 h2 h3
    by_cases hK : K = i + 1
    · subst hK; exact ⟨rfl, fun b => .inr ⟨fun j B h1 h2 => absurd h2 (by omega), rfl⟩⟩
    · obtain ⟨hn, hb⟩ := ih (by omega) (by omega) (fun e o he he2 => h3 e o he (by omega))
      have hlt : i < is.length := by omega
      have ho : is[i]? = some is[i] := List.getElem?_eq_getElem hlt
      rcases plain_step C ho (h3 i _ (by omega) (by omega) ho) with ⟨e, hno⟩ | ⟨B, hB⟩
      · rw [e]
        refine ⟨hn, fun b => ?_⟩
        rcases hb b with ⟨j, B, q1, q2, q3, q4, q5⟩ | ⟨q1, q2⟩
        · exact .inl ⟨j, B, q1, by omega, q3, q4, q5⟩
        · refine .inr ⟨fun j B j1 j2 hj => ?_, q2⟩
          by_cases hji : j < i
          · exact q1 j B j1 hji hj
          · obtain rfl : j = i := by omega
            exact absurd hj (hno B)
      · have hB' := hB
        obtain ⟨_, _, _, _, _, _, hM⟩ := hB'
        rw [hM]
        refine ⟨hn, fun b => ?_⟩
        rw [set_get]
        by_cases hbi : b = B0 + i
        · exact .inl ⟨i, B, by omega, by omega, hB, hbi, by rw [if_pos hbi]⟩
        · rw [if_neg hbi]
          rcases hb b with ⟨j, B', q1, q2, q3, q4, q5⟩ | ⟨q1, q2⟩
          · exact .inl ⟨j, B', q1, by omega, q3, q4, q5⟩
          · refine .inr ⟨fun j B' j1 j2 hj => ?_, q2⟩
            by_cases hji : j < i
            · exact q1 j B' j1 hji hj
            · obtain rfl : j = i := by omega
              exact hbi

/-- Where the machine stands when these operations have been done: S, and of those that act all below K. -/
structure Inv (n : Nat) (ops : Array Oper) (is : List IOper) (B0 : Nat) (F : Nat → Fr) (M : Nat → Mem) (V : Nat → EV) (base : Nat) (ρ0 : Ren) (m0 : Mem) (w0 : World) (S : List Nat) (K : Nat) (ρ : Ren) (Mm : Mem) (frS : Fr) (a : Act) (w : World) : Prop where
  b0 : m0.next = B0
  sub : ∀ i, i ∈ S → i < is.length
  bef : ∀ j, j ∈ S → ∀ i, i ∈ (befores ops.toList []).getD j [] → i ∈ S
  acts : ∀ (e : Nat) (o : IOper), is[e]? = some o → Acts o (F e) → (e ∈ S ↔ e < K)
  last : K = 0 ∨ ∃ e o, K = e + 1 ∧ is[e]? = some o ∧ Acts o (F e)
  hR : R base ρ Mm w
  nx : Mm.next = (M K).next
  nxN : B0 + is.length ≤ (M K).next
  get1 : ∀ (j : Nat) (B : Blk), MakeAt is B0 F M j B → j ∈ S → K ≤ j → Mm.get (B0 + j) = B
  get2 : ∀ b, (∀ (j : Nat) (B : Blk), MakeAt is B0 F M j B → j ∈ S → K ≤ j → b ≠ B0 + j) → Mm.get b = (M K).get b
  un : ∀ j, j < is.length → ρ (B0 + j) ≠ none → j ∈ S
  late : ∀ (j : Nat) (B : Blk), MakeAt is B0 F M j B → j < K → j ∉ S → (M K).get (B0 + j) = B
  dd : ∀ j, K ≤ j → j < is.length → (M K).get (B0 + j) = .dead
  st : Step ρ0 m0 w0 ρ Mm w
  fr : FrR ρ n frS a
  cur : ∀ t, frS.get t = curU is F V S t is.length
  df : frS.defers = (F 0).defers

section
variable {base : Nat} {ρ0 ρ : Ren} {m0 Mm : Mem} {w0 w : World} {S : List Nat} {K : Nat} {frS : Fr} {a : Act}

theorem Inv.kN (I : Inv n ops is B0 F M V base ρ0 m0 w0 S K ρ Mm frS a w) : K ≤ is.length := by
  rcases I.last with h | ⟨e, o, h, ho, _⟩
  · omega
  · have := (List.getElem?_eq_some_iff.1 ho).1; omega
theorem MakeAt.lt {j : Nat} {B : Blk} (h : MakeAt is B0 F M j B) : j < is.length := by
  obtain ⟨o, _, ho, _⟩ := h
  exact (List.getElem?_eq_some_iff.1 ho).1
/-- What the machine's memory tells of the text's. -/
theorem Inv.wk (C : Cx P G n call ops is chk B0 F M V) (I : Inv n ops is B0 F M V base ρ0 m0 w0 S K ρ Mm frS a w) {i : Nat} (h1 : K ≤ i) (h2 : i ≤ is.length) (h3 : ∀ e o, K ≤ e → e < i → is[e]? = some o → ¬ Acts o (F e)) :
    (M i).next = (M K).next ∧ (∀ b L, ρ b = some L → (M i).get b = Mm.get b ∨ (M i).get b = .dead) ∧ (∀ b, (∀ j, j < is.length → b ≠ B0 + j) → (M i).get b = Mm.get b) ∧
      (∀ j, i ≤ j → j < is.length → (M i).get (B0 + j) = .dead) ∧ (∀ j B, MakeAt is B0 F M j B → j < i → j ∉ S → (M i).get (B0 + j) = B) := by
  obtain ⟨hn, hb⟩ := seg C K i h1 h2 h3
  refine ⟨hn, fun b L hL => ?_, fun b hno => ?_, fun j j1 j2 => ?_, fun j B hj j1 j2 => ?_⟩
  · rcases hb b with ⟨j, B, q1, q2, q3, q4, q5⟩ | ⟨q1, q2⟩
    · left
      rw [q5, q4]
      exact (I.get1 j B q3 (I.un j q3.lt (by rw [← q4, hL]; simp)) q1).symm
    · by_cases hp : ∃ j B, MakeAt is B0 F M j B ∧ j ∈ S ∧ K ≤ j ∧ b = B0 + j
      · obtain ⟨j, B, p1, p2, p3, p4⟩ := hp
        right
        rw [q2, p4]
        exact I.dd j p3 p1.lt
      · left
        rw [q2]
        exact (I.get2 b fun j B p1 p2 p3 p4 => hp ⟨j, B, p1, p2, p3, p4⟩).symm
  · rcases hb b with ⟨j, B, q1, q2, q3, q4, q5⟩ | ⟨q1, q2⟩
    · exact absurd q4 (hno j q3.lt)
    · rw [q2]
      exact (I.get2 b fun j B p1 _ _ => hno j p1.lt).symm
  · rcases hb (B0 + j) with ⟨j', B, q1, q2, q3, q4, q5⟩ | ⟨q1, q2⟩
    · omega
    · rw [q2]; exact I.dd j (by omega) j2
  · rcases hb (B0 + j) with ⟨j', B', q1, q2, q3, q4, q5⟩ | ⟨q1, q2⟩
    · have : j = j' := by omega
      subst this
      rw [q5]; exact q3.uniq hj
    · rw [q2]
      by_cases hjK : j < K
      · exact I.late j B hj hjK j2
      · exact absurd rfl (q1 j B (by omega) j1 hj)

/-- The operands have the text's values. -/
theorem Inv.val (C : Cx P G n call ops is chk B0 F M V) (I : Inv n ops is B0 F M V base ρ0 m0 w0 S K ρ Mm frS a w) {i : Nat} {o : IOper} (ho : is[i]? = some o) (hi : i ∉ S) (hb : ∀ j, j ∈ (befores ops.toList []).getD i [] → j ∈ S) :
    ∀ t, t ∈ named o → frS.get t = (F i).get t := by
  intro t ht
  have hlt := (List.getElem?_eq_some_iff.1 ho).1
  rw [I.cur t, show is.length = i + (is.length - i) by omega, curU_stop S t _ i, curU_text C S t i (by omega)]
  · intro j q hj hq hd
    apply Classical.byContradiction
    intro hjS
    exact (C.open_ j i q o hj hq ho (fun h => hjS (hb j h))).2.1 t hd ht
  · intro j q h1 h2 hq hd hjS
    by_cases e : j = i
    · subst e; exact hi hjS
    · exact (C.open_ i j o q (by omega) ho hq (fun h => hi (I.bef j hjS i h))).2.2.1 t hd ht
theorem eval_eq {f g : Fr} {o : IOper} (h : ∀ t, t ∈ named o → f.get t = g.get t) : ∀ x, x ∈ xopds o.op → f.eval x = g.eval x := by
  intro x hx
  cases x with
  | const v => rfl
  | tmp t => exact h t (named_opd hx t rfl)
theorem wanted_same {f g : Fr} {o : IOper} (h : ∀ t, t ∈ named o → f.get t = g.get t) : wantedE f o.guard = wantedE g o.guard := by
  cases hg : o.guard with
  | none => rfl
  | some p =>
    obtain ⟨t, b⟩ := p
    simp only [wantedE, h t (named_guard hg)]
theorem Inv.cur_put (C : Cx P G n call ops is chk B0 F M V) (I : Inv n ops is B0 F M V base ρ0 m0 w0 S K ρ Mm frS a w) {i : Nat} {o : IOper} (ho : is[i]? = some o) (hi : i ∉ S) :
    ∀ t, (frS.put o.dst (V i)).get t = curU is F V (i :: S) t is.length := by
  intro t
  have hlt := (List.getElem?_eq_some_iff.1 ho).1
  by_cases hd : o.dst = some t
  · rw [hd, show is.length = (i + 1) + (is.length - (i + 1)) by omega, curU_stop (i :: S) t _ (i + 1)]
    · simp only [curU, ho, Option.bind_some]
      rw [if_pos ⟨by simp, hd⟩]
      simp only [Fr.put, Fr.get_set, if_true]
    · intro j q h1 h2 hq hdq hj
      rcases List.mem_cons.1 hj with e | hjS
      · omega
      · exact (C.open_ i j o q (by omega) ho hq (fun h => hi (I.bef j hjS i h))).2.1 t hd (named_dst hdq)
  · have : (frS.put o.dst (V i)).get t = frS.get t := by
      cases hdd : o.dst with
      | none => rfl
      | some u =>
        simp only [Fr.put, Fr.get_set]
        rw [if_neg]
        intro e; subst e; exact hd hdd
    rw [this, I.cur t]
    refine curU_same t _ fun j q hj hq hdq => ?_
    constructor
    · intro h; exact List.mem_cons_of_mem _ h
    · intro h
      rcases List.mem_cons.1 h with e | h
      · subst e; rw [ho] at hq; cases hq; exact absurd hdq hd
      · exact h
/-- One that changes no memory. -/
theorem Inv.idle (C : Cx P G n call ops is chk B0 F M V) (I : Inv n ops is B0 F M V base ρ0 m0 w0 S K ρ Mm frS a w) {i : Nat} {o : IOper} (ho : is[i]? = some o) (hi : i ∉ S) (hb : ∀ j, j ∈ (befores ops.toList []).getD i [] → j ∈ S)
    (hna : ¬ Acts o (F i)) (hnm : ∀ B, ¬ MakeAt is B0 F M i B) {ρ1 : Ren} {w1 : World} {a1 : Act} (hR1 : R base ρ1 Mm w1) (hs : Step ρ Mm w ρ1 Mm w1) (hF : FrR ρ1 n (frS.put o.dst (V i)) a1) :
    Inv n ops is B0 F M V base ρ0 m0 w0 (i :: S) K ρ1 Mm (frS.put o.dst (V i)) a1 w1 := by
  have hlt := (List.getElem?_eq_some_iff.1 ho).1
  refine ⟨I.b0, ?_, ?_, ?_, I.last, hR1, I.nx, I.nxN, ?_, ?_, ?_, ?_, I.dd, I.st.trans hs, hF, I.cur_put C ho hi, by rw [put_defers]; exact I.df⟩
  · intro j hj
    rcases List.mem_cons.1 hj with e | hj
    · rw [e]; exact hlt
    · exact I.sub j hj
  · intro j hj k hk
    rcases List.mem_cons.1 hj with e | hj
    · rw [e] at hk; exact List.mem_cons_of_mem _ (hb k hk)
    · exact List.mem_cons_of_mem _ (I.bef j hj k hk)
  · intro e q hq hA
    rw [← I.acts e q hq hA]
    constructor
    · intro h
      rcases List.mem_cons.1 h with e1 | h
      · subst e1; rw [ho] at hq; cases hq; exact absurd hA hna
      · exact h
    · exact List.mem_cons_of_mem _
  · intro j B hj hjS hK
    rcases List.mem_cons.1 hjS with e | h
    · rw [e] at hj; exact absurd hj (hnm B)
    · exact I.get1 j B hj h hK
  · intro b hno
    exact I.get2 b fun j B h1 h2 h3 => hno j B h1 (List.mem_cons_of_mem _ h2) h3
  · intro j hj h1
    refine List.mem_cons_of_mem _ (I.un j hj ?_)
    intro h0
    have := hs.new _ h0 h1
    have := I.nx; have := I.nxN
    omega
  · intro j B hj h1 h2
    exact I.late j B hj h1 fun h => h2 (List.mem_cons_of_mem _ h)
/-- One that makes a block. -/
theorem Inv.make (C : Cx P G n call ops is chk B0 F M V) (I : Inv n ops is B0 F M V base ρ0 m0 w0 S K ρ Mm frS a w) {i : Nat} {o : IOper} (ho : is[i]? = some o) (hi : i ∉ S) (hb : ∀ j, j ∈ (befores ops.toList []).getD i [] → j ∈ S)
    {B : Blk} (hm : MakeAt is B0 F M i B) {ρ1 : Ren} {w1 : World} {a1 : Act} (hM : Made base ρ ⟨B0 + i, Mm.tbl⟩ w ρ1 B w1) (hF : FrR ρ1 n (frS.put o.dst (V i)) a1) :
    Inv n ops is B0 F M V base ρ0 m0 w0 (i :: S) K ρ1 ⟨Mm.next, Mm.tbl.set (B0 + i) B⟩ (frS.put o.dst (V i)) a1 w1 := by
  have hlt := (List.getElem?_eq_some_iff.1 ho).1
  obtain ⟨hR1, hs⟩ := make_over I.hR I.st (by have := I.b0; omega) (by have := I.nx; have := I.nxN; omega) hM
  refine ⟨I.b0, ?_, ?_, ?_, I.last, hR1, I.nx, I.nxN, ?_, ?_, ?_, ?_, I.dd, hs, hF, I.cur_put C ho hi, by rw [put_defers]; exact I.df⟩
  · intro j hj
    rcases List.mem_cons.1 hj with e | hj
    · rw [e]; exact hlt
    · exact I.sub j hj
  · intro j hj k hk
    rcases List.mem_cons.1 hj with e | hj
    · rw [e] at hk; exact List.mem_cons_of_mem _ (hb k hk)
    · exact List.mem_cons_of_mem _ (I.bef j hj k hk)
  · intro e q hq hA
    rw [← I.acts e q hq hA]
    constructor
    · intro h
      rcases List.mem_cons.1 h with e1 | h
      · subst e1; exact (hm.no hq hA).elim
      · exact h
    · exact List.mem_cons_of_mem _
  · intro j B' hj hjS hK
    rw [set_get]
    by_cases e : j = i
    · subst e; rw [if_pos rfl]; exact hm.uniq hj
    · rw [if_neg (by omega)]
      rcases List.mem_cons.1 hjS with h | h
      · exact absurd h e
      · exact I.get1 j B' hj h hK
  · intro b hno
    rw [set_get]
    by_cases e : b = B0 + i
    · rw [if_pos e]
      have hiK : i < K := by
        apply Classical.byContradiction
        intro h
        exact hno i B hm (by simp) (by omega) e
      rw [e]
      exact (I.late i B hm hiK hi).symm
    · rw [if_neg e]
      exact I.get2 b fun j B h1 h2 h3 => hno j B h1 (List.mem_cons_of_mem _ h2) h3
  · intro j hj h1
    by_cases e : j = i
    · rw [e]; simp
    · refine List.mem_cons_of_mem _ (I.un j hj ?_)
      rw [← hM.dom (B0 + j) (show B0 + j ≠ B0 + i by omega)]
      exact h1
  · intro j B' hj h1 h2
    exact I.late j B' hj h1 fun h => h2 (List.mem_cons_of_mem _ h)
/-- Of those that act, all ahead in the text have been done, and none behind. -/
theorem Inv.next (C : Cx P G n call ops is chk B0 F M V) (I : Inv n ops is B0 F M V base ρ0 m0 w0 S K ρ Mm frS a w) {i : Nat} {o : IOper} (ho : is[i]? = some o) (hi : i ∉ S) (hb : ∀ j, j ∈ (befores ops.toList []).getD i [] → j ∈ S)
    (hA : Acts o (F i)) : K ≤ i ∧ ∀ e q, K ≤ e → e < i → is[e]? = some q → ¬ Acts q (F e) := by
  have hKi : K ≤ i := by
    apply Classical.byContradiction
    intro h
    exact hi ((I.acts i o ho hA).2 (by omega))
  refine ⟨hKi, fun e q h1 h2 hq hAe => ?_⟩
  have heS : e ∈ S := by
    apply Classical.byContradiction
    intro heS
    have := (C.open_ e i q o h2 hq ho (fun h => heS (hb e h))).1
    exact this ⟨Nat.le_antisymm (sort_le _) hAe.2, Nat.le_antisymm (sort_le _) hA.2⟩
  have := (I.acts e q hq hAe).1 heS
  omega
theorem Inv.text (C : Cx P G n call ops is chk B0 F M V) (I : Inv n ops is B0 F M V base ρ0 m0 w0 S K ρ Mm frS a w) {i : Nat} (h1 : K ≤ i) (h2 : i ≤ is.length) (h3 : ∀ e o, K ≤ e → e < i → is[e]? = some o → ¬ Acts o (F e)) :
    R base ρ (M i) w := by
  obtain ⟨k1, k2, k3, k4, k5⟩ := I.wk C h1 h2 h3
  refine I.hR.weaken (fun b L hb => ?_) k2 (fun b hb => ?_)
  · rw [k1, ← I.nx]; exact I.hR.lt b L hb
  · rw [k1] at hb
    rw [k3 b (fun j hj => by have := I.nxN; omega)]
    exact I.hR.clean b (by rw [I.nx]; exact hb)
theorem Inv.act (C : Cx P G n call ops is chk B0 F M V) (I : Inv n ops is B0 F M V base ρ0 m0 w0 S K ρ Mm frS a w) {i : Nat} {o : IOper} (ho : is[i]? = some o) (hi : i ∉ S) (hb : ∀ j, j ∈ (befores ops.toList []).getD i [] → j ∈ S)
    (hA : Acts o (F i)) {ρ1 : Ren} {w1 : World} {a1 : Act} (hR1 : R base ρ1 (M (i + 1)) w1) (hs : Step ρ (M i) w ρ1 (M (i + 1)) w1) (hF : FrR ρ1 n (frS.put o.dst (V i)) a1) :
    ∃ M2, Inv n ops is B0 F M V base ρ0 m0 w0 (i :: S) (i + 1) ρ1 M2 (frS.put o.dst (V i)) a1 w1 := by
  have hlt := (List.getElem?_eq_some_iff.1 ho).1
  obtain ⟨hKi, hno⟩ := I.next C ho hi hb hA
  obtain ⟨k1, k2, k3, k4, k5⟩ := I.wk C hKi (Nat.le_of_lt hlt) hno
  have hb0 := I.b0
  have hnx := I.nx
  have hnxN := I.nxN
  have hnext := hs.next
  let l := (S.filter fun j => decide (i < j)).map fun j => B0 + j
  have hl : ∀ b, b ∈ l ↔ ∃ j, j ∈ S ∧ i < j ∧ b = B0 + j := by
    intro b
    simp only [l, List.mem_map, List.mem_filter, decide_eq_true_eq]
    constructor
    · rintro ⟨j, ⟨h1, h2⟩, h3⟩; exact ⟨j, h1, h2, h3.symm⟩
    · rintro ⟨j, h1, h2, h3⟩; exact ⟨j, ⟨h1, h2⟩, h3.symm⟩
  obtain ⟨M2, m1, m2⟩ := over (M (i + 1)) Mm.get l
  have hrest : R base ρ1 M2 w1 ∧ Step ρ0 m0 w0 ρ1 M2 w1 := by
    refine act_over l I.hR I.st hR1 hs (fun b hbl => ?_) (fun b L hL _ => k2 b L hL) (fun b hbl => ?_) (by omega) m1 m2
    · obtain ⟨j, j1, j2, rfl⟩ := (hl b).1 hbl
      have := I.sub j j1
      exact ⟨by omega, by omega, k4 j (by omega) this⟩
    · exact k3 b fun j hj => by omega
  refine ⟨M2, I.b0, ?_, ?_, ?_, .inr ⟨i, o, rfl, ho, hA⟩, hrest.1, m1, by omega, ?_, ?_, ?_, ?_, ?_, hrest.2, hF, I.cur_put C ho hi, by rw [put_defers]; exact I.df⟩
  · intro j hj
    rcases List.mem_cons.1 hj with e | hj
    · rw [e]; exact hlt
    · exact I.sub j hj
  · intro j hj k hk
    rcases List.mem_cons.1 hj with e | hj
    · rw [e] at hk; exact List.mem_cons_of_mem _ (hb k hk)
    · exact List.mem_cons_of_mem _ (I.bef j hj k hk)
  · intro e q hq hAe
    constructor
    · intro h
      rcases List.mem_cons.1 h with e1 | h
      · omega
      · have := (I.acts e q hq hAe).1 h; omega
    · intro h
      by_cases e1 : e = i
      · rw [e1]; simp
      · refine List.mem_cons_of_mem _ ((I.acts e q hq hAe).2 ?_)
        apply Classical.byContradiction
        intro h2
        exact hno e q (by omega) (by omega) hq hAe
  · intro j B hj hjS hK
    rcases List.mem_cons.1 hjS with e | h
    · omega
    · rw [m2, if_pos ((hl _).2 ⟨j, h, by omega, rfl⟩)]
      exact I.get1 j B hj h (by omega)
  · intro b hnob
    rw [m2]
    split
    · rename_i hbl
      obtain ⟨j, j1, j2, rfl⟩ := (hl b).1 hbl
      have hjN := I.sub j j1
      rw [hs.dead (B0 + j) (by omega) (k4 j (by omega) hjN), I.get2 (B0 + j) ?_]
      · exact I.dd j (by omega) hjN
      · intro j' B h1 h2 h3 h4
        have : j = j' := by omega
        subst this
        exact hnob j B h1 (List.mem_cons_of_mem _ h2) (by omega) rfl
    · rfl
  · intro j hj h1
    refine List.mem_cons_of_mem _ (I.un j hj ?_)
    intro h0
    have := hs.new _ h0 h1
    omega
  · intro j B hj h1 h2
    have hjS : j ∉ S := fun h => h2 (List.mem_cons_of_mem _ h)
    have hji : j ≠ i := fun e => h2 (by rw [e]; simp)
    have hjN := hj.lt
    have hρ : ρ (B0 + j) = none := by
      cases e : ρ (B0 + j) with
      | none => rfl
      | some L => exact absurd (I.un j hjN (by rw [e]; simp)) hjS
    rw [hs.same (B0 + j) (by omega) hρ]
    exact k5 j B hj (by omega) hjS
  · intro j h1 h2
    exact hs.dead (B0 + j) (by omega) (k4 j (by omega) h2)
/-- A load tells what it tells in the text's order. -/
theorem Inv.load (C : Cx P G n call ops is chk B0 F M V) (I : Inv n ops is B0 F M V base ρ0 m0 w0 S K ρ Mm frS a w) {i : Nat} {o : IOper} (ho : is[i]? = some o) (hi : i ∉ S) (hb : ∀ j, j ∈ (befores ops.toList []).getD i [] → j ∈ S)
    {agg : Option Nat} {x : Opd} (hL : Loads o (F i) agg x) (h : (M i).load agg ((F i).eval x) = some (V i)) {x' : Value} (hv : VR ρ ((F i).eval x) x') : Mm.load agg ((F i).eval x) = some (V i) := by
  have hlt := (List.getElem?_eq_some_iff.1 ho).1
  have hso : sort o.op = 2 := by rw [hL.2]; rfl
  -- a place in the text's order from which no act parts us
  have hex : ∃ k, K ≤ k ∧ k ≤ is.length ∧ (∀ e q, K ≤ e → e < k → is[e]? = some q → ¬ Acts q (F e)) ∧ (M k).load agg ((F i).eval x) = some (V i) := by
    by_cases hKi : K ≤ i
    · by_cases hact : ∃ e, K ≤ e ∧ e < i ∧ ∃ q, is[e]? = some q ∧ Acts q (F e)
      · -- the first of them
        obtain ⟨e, ⟨he1, he2, q, hq, hAe⟩, hmin⟩ : ∃ e, (K ≤ e ∧ e < i ∧ ∃ q, is[e]? = some q ∧ Acts q (F e)) ∧ ∀ e', e' < e → ¬ (K ≤ e' ∧ e' < i ∧ ∃ q, is[e']? = some q ∧ Acts q (F e')) := by
          obtain ⟨e, he⟩ := hact
          induction e using Nat.strongRecOn with
          | _ e ih =>
            by_cases h : ∃ e', e' < e ∧ (K ≤ e' ∧ e' < i ∧ ∃ q, is[e']? = some q ∧ Acts q (F e'))
            · obtain ⟨e', h1, h2⟩ := h; exact ih e' h1 h2
            · exact ⟨e, he, fun e' h1 h2 => h ⟨e', h1, h2⟩⟩
        have heS : e ∉ S := fun hh => by have := (I.acts e q hq hAe).1 hh; omega
        have hp := (C.open_ e i q o he2 hq ho (fun hh => heS (hb e hh))).2.2.2.2 (Nat.le_antisymm (sort_le _) hAe.2) hso
        have := (C.c1 i o agg x e q ho hq hL hAe hp).1 he2
        exact ⟨e, he1, by omega, fun e' q' h1 h2 hq' hA' => hmin e' h2 ⟨h1, by omega, q', hq', hA'⟩, stands_of this⟩
      · exact ⟨i, hKi, by omega, fun e q h1 h2 hq hA => hact ⟨e, h1, h2, q, hq, hA⟩, h⟩
    · rcases I.last with h0 | ⟨e, q, hK, hq, hAe⟩
      · omega
      · have heS : e ∈ S := (I.acts e q hq hAe).2 (by omega)
        have hie : i ≠ e := fun h => hi (h ▸ heS)
        have hp := (C.open_ i e o q (by omega) ho hq (fun hh => hi (I.bef e heS i hh))).2.2.2.1 hso (Nat.le_antisymm (sort_le _) hAe.2)
        have := (C.c1 i o agg x e q ho hq hL hAe hp).2 (by omega)
        refine ⟨K, Nat.le_refl _, I.kN, fun e' q' h1 h2 => absurd h2 (by omega), ?_⟩
        rw [hK]; exact stands_of this
  obtain ⟨k, h1, h2, h3, h4⟩ := hex
  obtain ⟨_, k2, _, _, _⟩ := I.wk C h1 h2 h3
  obtain ⟨b, off, hx, hd⟩ := load_ptr h4
  rw [hx] at hv h4 ⊢
  cases hv with
  | ptr hL =>
  rcases k2 b _ hL with e | e
  · rw [← load_get e]; exact h4
  · exact absurd e hd
theorem draws (hcall : CallOk P G call) (C : Cx P G n call ops is chk B0 F M V) (hG : Globs G ρ0) : ∀ (l S : List Nat) (K : Nat) (ρ : Ren) (Mm : Mem) (frS : Fr) (a : Act) (w : World), Inv n ops is B0 F M V base ρ0 m0 w0 S K ρ Mm frS a w →
    (∀ (k i : Nat), l[k]? = some i → i < is.length ∧ i ∉ S ∧ i ∉ l.take k ∧ ∀ b, b ∈ (befores ops.toList []).getD i [] → b ∈ S ∨ b ∈ l.take k) → (∀ i, i < is.length → i ∈ S ∨ i ∈ l) →
    wpOps P ops (Reach base n ρ0 m0 w0 (.norm (F is.length) (M is.length))) l a w := by
  intro l
  induction l with
  | nil =>
    intro S K ρ Mm frS a w I hl hall
    have hS : ∀ i, i < is.length → i ∈ S := fun i hi => by rcases hall i hi with h | h; exact h; cases h
    obtain ⟨k1, k2, k3, k4, k5⟩ := I.wk C I.kN (Nat.le_refl _) (fun e q h1 h2 hq hA => by have := (I.acts e q hq hA).1 (hS e h2); omega)
    obtain ⟨_, hb⟩ := seg C K is.length I.kN (Nat.le_refl _) (fun e q h1 h2 hq hA => by have := (I.acts e q hq hA).1 (hS e h2); omega)
    have hg : ∀ b, (M is.length).get b = Mm.get b := by
      intro b
      rcases hb b with ⟨j, B, q1, q2, q3, q4, q5⟩ | ⟨q1, q2⟩
      · rw [q5, q4]; exact (I.get1 j B q3 (hS j q2) q1).symm
      · rw [q2]; exact (I.get2 b fun j B p1 p2 p3 p4 => q1 j B p3 p1.lt p1 p4).symm
    have hnx : (M is.length).next = Mm.next := by rw [k1, I.nx]
    have hdef : ∀ k, k ≤ is.length → (F k).defers = (F 0).defers := by
      intro k
      induction k with
      | zero => intro _; rfl
      | succ k ih =>
        intro hk
        have hlt : k < is.length := by omega
        obtain ⟨_, hF⟩ := C.at_ k is[k] (List.getElem?_eq_getElem hlt)
        rw [hF, put_defers]; exact ih (by omega)
    refine ⟨rfl, ρ, I.hR.congr hnx hg, I.st.congr hnx hg, ⟨⟨I.fr.tm.size, fun t => ?_⟩, ?_⟩⟩
    · have := I.fr.tm.tmp t
      rw [I.cur t, curU_text C S t is.length (Nat.le_refl _) (fun j o hj _ _ => hS j hj)] at this
      exact this
    · rw [hdef _ (Nat.le_refl _), ← I.df]; exact I.fr.defs
  | cons i l ih =>
    intro S K ρ Mm frS a w I hl hall
    obtain ⟨hlt, hi, _, hb⟩ := hl 0 i rfl
    have hb : ∀ j, j ∈ (befores ops.toList []).getD i [] → j ∈ S := fun j hj => by
      rcases hb j hj with h | h
      · exact h
      · simp at h
    have hio : is[i]? = some is[i] := List.getElem?_eq_getElem hlt
    generalize is[i] = io at hio
    have next : ∀ {K1 : Nat} {ρ1 : Ren} {M1 : Mem} {fr1 : Fr} {a1 : Act} {w1 : World}, Inv n ops is B0 F M V base ρ0 m0 w0 (i :: S) K1 ρ1 M1 fr1 a1 w1 → wpOps P ops (Reach base n ρ0 m0 w0 (.norm (F is.length) (M is.length))) l a1 w1 := by
      intro K1 ρ1 M1 fr1 a1 w1 I1
      refine ih (i :: S) K1 ρ1 M1 fr1 a1 w1 I1 (fun k j hj => ?_) (fun j hj => ?_)
      · obtain ⟨g1, g2, g3, g4⟩ := hl (k + 1) j (by simpa using hj)
        rw [List.take_succ_cons] at g3 g4
        refine ⟨g1, ?_, fun h => g3 (List.mem_cons_of_mem _ h), fun b hb => ?_⟩
        · intro h
          rcases List.mem_cons.1 h with e | h
          · exact g3 (by rw [e]; simp)
          · exact g2 h
        · rcases g4 b hb with h | h
          · exact .inl (List.mem_cons_of_mem _ h)
          · rcases List.mem_cons.1 h with e | h
            · exact .inl (by rw [e]; simp)
            · exact .inr h
      · rcases hall j hj with h | h
        · exact .inl (List.mem_cons_of_mem _ h)
        · rcases List.mem_cons.1 h with e | h
          · exact .inl (by rw [e]; simp)
          · exact .inr h
    obtain ⟨o, ho, hc⟩ := C.comp i io hio
    obtain ⟨hx, hdst, hdlt, hgd⟩ := cOper_of hc
    obtain ⟨hat, _⟩ := C.at_ i io hio
    have hval := I.val C hio hi hb
    have hev := eval_eq hval
    have hwt := wanted_same hval
    have hGρ := hG.ext I.st.ext
    simp only [wpOps, ho]
    -- one that looks at the memory as it is
    have still : ∀ {op : IOp}, io.op = .val op → ¬ Acts io (F i) → (∀ B, ¬ MakeAt is B0 F M i B) → evOp frS.eval op Mm = some (.val (V i) Mm) →
        o.wp P a w (wpOps P ops (Reach base n ρ0 m0 w0 (.norm (F is.length) (M is.length))) l) (Reach base n ρ0 m0 w0 (.norm (F is.length) (M is.length))) := by
      intro op hop hna hnm he
      rw [hop] at hx
      obtain ⟨ρ1, w1, v', hrun, hv, hR1, hs⟩ := op_sound (cXOp_val hx) hGρ I.hR I.fr.tm he
      have hF := (I.fr.ext hs.ext).put hdlt hv
      rw [← hdst] at hF
      have := next (I.idle C hio hi hb hna hnm hR1 hs hF)
      simp only [Oper.wp]
      rw [hdst] at this
      rcases hrun with hrun | ⟨hrun, rfl⟩
      · rw [hrun]; exact this
      · rw [hrun]; exact this
    cases hat with
    | skip hw hv hm =>
      rw [wanted_eq I.fr.tm hgd (hwt.trans hw), if_neg (by simp)]
      have hF := I.fr.put hdlt (VR.undef (ρ := ρ))
      rw [← hv, ← hdst] at hF
      have := next (I.idle C hio hi hb (fun hA => by have := hA.1; rw [hw] at this; cases this) (fun B ⟨o', op, h1, h2, h3, h4, _⟩ => by rw [hio] at h1; cases h1; rw [hw] at h4; cases h4) I.hR (.refl _ _ _) hF)
      rw [hdst] at this
      exact this
    | pure op m1 hw hop hs h hm =>
      rw [wanted_eq I.fr.tm hgd (hwt.trans hw), if_pos rfl]
      left
      refine still hop (fun hA => by have := hA.2; rw [hop] at this; simp only [sort] at this; omega) (fun B ⟨o', op', h1, h2, h3, h4, _⟩ => by rw [hio] at h1; cases h1; rw [hop] at h2; cases h2; omega) ?_
      rw [evOp_congr (g := (F i).eval) (fun x hxx => hev x (by rw [hop]; exact hxx))]
      exact (pure_any hs h).2 Mm
    | load agg x hw hop h hm =>
      rw [wanted_eq I.fr.tm hgd (hwt.trans hw), if_pos rfl]
      left
      refine still hop (fun hA => by have := hA.2; rw [hop] at this; simp [sort, srt] at this) (fun B ⟨o', op', h1, h2, h3, h4, _⟩ => by rw [hio] at h1; cases h1; rw [hop] at h2; cases h2; simp [srt] at h3) ?_
      have hxe : frS.eval x = (F i).eval x := hev x (by rw [hop]; simp [xopds, opds])
      rw [hop] at hx
      have hxv : ∃ x', VR ρ (frS.eval x) x' := by
        cases x with
        | tmp t => exact ⟨_, I.fr.tm.tmp t⟩
        | const v =>
          obtain ⟨agg', x1, x0, q1, q2⟩ := load_opd (cXOp_val hx) rfl
          cases q1
          exact ⟨_, cOpd_sound hGρ I.fr.tm q2⟩
      obtain ⟨x', hx'⟩ := hxv
      rw [hxe] at hx'
      have := I.load C hio hi hb ⟨hw, hop⟩ h hx'
      simp only [evOp, hxe, this, ofEV, Option.map_some]
    | make op m1 hw hop hs h hm =>
      rw [wanted_eq I.fr.tm hgd (hwt.trans hw), if_pos rfl]
      left
      rw [hop] at hx
      obtain ⟨B, mk, e1, e2, e3⟩ := make_any hs h
      have hmk : MakeAt is B0 F M i B := ⟨io, op, hio, hop, hs, hw, by rw [hm, e2]; rfl⟩
      have he : evOp frS.eval op ⟨B0 + i, Mm.tbl⟩ = some (.val (V i) ((⟨B0 + i, Mm.tbl⟩ : Mem).new B)) := by
        rw [evOp_congr (g := (F i).eval) (fun x hxx => hev x (by rw [hop]; exact hxx)), e3, e1]
      have hRN : RN base ρ ⟨B0 + i, Mm.tbl⟩ w := by
        refine ⟨?_, I.hR.blk, I.hR.inj, I.hR.base⟩
        apply Classical.byContradiction
        intro e
        exact hi (I.un i hlt e)
      obtain ⟨B', hB', ρ1, w1, v', hrun, hv, hM⟩ := make_sound (cXOp_val hx) hs hGρ hRN I.fr.tm he
      have : B' = B := by
        have h1 := congrArg (fun m : Mem => m.get (B0 + i)) hB'
        simp only [Mem.get_new, if_true] at h1
        exact h1.symm
      subst this
      have hF := (I.fr.ext hM.ext).put hdlt hv
      rw [← hdst] at hF
      have := next (I.make C hio hi hb hmk hM hF)
      rw [hdst] at this
      simp only [Oper.wp]
      rw [hrun]; exact this
    | act op hw hop hs h =>
      rw [wanted_eq I.fr.tm hgd (hwt.trans hw), if_pos rfl]
      left
      rw [hop] at hx
      have hA : Acts io (F i) := ⟨hw, by rw [hop]; exact hs⟩
      obtain ⟨hKi, hno⟩ := I.next C hio hi hb hA
      have hRi := I.text C hKi (Nat.le_of_lt hlt) hno
      rw [← evOp_congr (f := frS.eval) (fun x hxx => hev x (by rw [hop]; exact hxx))] at h
      obtain ⟨ρ1, w1, v', hrun, hv, hR1, hst⟩ := op_sound (cXOp_val hx) hGρ hRi I.fr.tm h
      have hF := (I.fr.ext hst.ext).put hdlt hv
      rw [← hdst] at hF
      obtain ⟨M2, I2⟩ := I.act C hio hi hb hA hR1 hst hF
      have := next I2
      rw [hdst] at this
      simp only [Oper.wp]
      rcases hrun with hrun | ⟨hrun, rfl⟩
      · rw [hrun]; exact this
      · rw [hrun]; exact this
    | call f args hw hop h =>
      rw [wanted_eq I.fr.tm hgd (hwt.trans hw), if_pos rfl]
      left
      rw [hop] at hx
      have hA : Acts io (F i) := ⟨hw, by rw [hop]; simp [sort]⟩
      obtain ⟨hKi, hno⟩ := I.next C hio hi hb hA
      have hRi := I.text C hKi (Nat.le_of_lt hlt) hno
      obtain ⟨f0, xs0, ts0, hoo, hf, hys⟩ := cXOp_call hx
      have hfe : frS.eval f = (F i).eval f := hev f (by rw [hop]; simp [xopds])
      have hae : args.map frS.eval = args.map (F i).eval := map_congr' fun x hxx => hev x (by rw [hop]; simp [xopds, hxx])
      rw [← hfe, ← hae] at h
      cases hfv : frS.eval f <;> simp only [hfv, evCall, reduceCtorEq] at h
      rename_i g x y
      obtain ⟨args', hrun, hv⟩ := op_call (w := w) (P := P) hoo hf hys hGρ I.fr.tm hfv
      simp only [Oper.wp]
      rw [hrun]
      rcases hcall _ _ _ _ h base ρ w args' hRi hGρ hv with ⟨h1, h2⟩ | ⟨v, v', e, h1, h2⟩
      · rw [h1]
        simp only [Oper.upon]
        refine h2.mono fun e w' hp => ?_
        obtain ⟨ρ1, v', rfl, hvv, hR1, hst⟩ := hp
        have hF := (I.fr.ext hst.ext).put hdlt hvv
        rw [← hdst] at hF
        obtain ⟨M2, I2⟩ := I.act C hio hi hb hA hR1 hst hF
        have := next I2
        rw [hdst] at this
        exact this
      · rw [h1]
        simp only [Oper.upon]
        simp only [Fin.ret.injEq] at e
        obtain ⟨rfl, e⟩ := e
        have hF := I.fr.put hdlt h2
        rw [← hdst] at hF
        obtain ⟨M2, I2⟩ := I.act C hio hi hb hA (by rw [e]; exact hRi) (by rw [e]; exact .refl _ _ _) hF
        have := next I2
        rw [hdst] at this
        exact this
end
theorem hasPair_of {i j : Nat} : ∀ {l : List (Nat × Nat)}, (i, j) ∈ l → hasPair i j l = true
  | [], h => by cases h
  | (a, b) :: l, h => by
    simp only [hasPair]
    rcases List.mem_cons.1 h with e | h
    · cases e
      simp
    · have := hasPair_of h
      cases h1 : a.beq i <;> simp only [cond_true, cond_false]
      · exact this
      · cases h2 : b.beq j <;> simp only [cond_true, cond_false]
        · exact this
theorem pairs_mem {n i j : Nat} (h : i < j) (hj : j < n) : (i, j) ∈ pairs n := by
  unfold pairs
  refine List.mem_flatMap.2 ⟨j, by simpa using hj, List.mem_map.2 ⟨i, by simpa using h, rfl⟩⟩
theorem maskOf_sub {acc : List (List Nat)} {accm : List Nat} (h : ∀ k i, (accm.getD k 0).testBit i = true → i ∈ acc.getD k []) : ∀ (es : List Edge) (i : Nat), (maskOf accm es).testBit i = true →
    i ∈ (es.filter plainEdge).flatMap fun e => e.on :: acc.getD e.on []
  | [], i, hi => by simp [maskOf] at hi
  | e :: es, i, hi => by
    simp only [maskOf] at hi
    cases hp : plainEdge e with
    | false =>
      simp only [hp, cond_false] at hi
      rw [List.filter_cons, hp]
      exact maskOf_sub h es i hi
    | true =>
      simp only [hp, cond_true, Nat.testBit_or, Bool.or_eq_true, Nat.testBit_two_pow, decide_eq_true_eq] at hi
      rw [List.filter_cons, hp]
      simp only [if_true, List.flatMap_cons, List.mem_append, List.mem_cons]
      rcases hi with (hi | hi) | hi
      · exact .inl (.inl hi.symm)
      · exact .inl (.inr (h _ _ hi))
      · exact .inr (maskOf_sub h es i hi)
theorem masks_sub : ∀ (l : List Oper) (acc : List (List Nat)) (accm : List Nat), accm.length = acc.length → (∀ k i, (accm.getD k 0).testBit i = true → i ∈ acc.getD k []) →
    ∀ k i, ((masks l accm).getD k 0).testBit i = true → i ∈ (befores l acc).getD k []
  | [], _, _, _, h => h
  | o :: l, acc, accm, hl, h => by
    refine masks_sub l _ _ (by simp [hl]) fun k i hi => ?_
    by_cases hk : k < accm.length
    · rw [List.getD_eq_getElem?_getD, List.getElem?_append_left hk, ← List.getD_eq_getElem?_getD] at hi
      rw [List.getD_eq_getElem?_getD, List.getElem?_append_left (by omega), ← List.getD_eq_getElem?_getD]
      exact h k i hi
    · rw [List.getD_eq_getElem?_getD, List.getElem?_append_right (by omega)] at hi
      rw [List.getD_eq_getElem?_getD, List.getElem?_append_right (by omega)]
      rw [hl] at hi
      cases hx : k - acc.length with
      | zero =>
        rw [hx] at hi
        simp only [List.getElem?_cons_zero, Option.getD_some] at hi ⊢
        exact maskOf_sub h _ i hi
      | succ x => rw [hx] at hi; simp at hi
theorem drawPairs_of {l : List Oper} {is : List IOper} {chk : List (Nat × Nat)} (h : drawPairs l is = some chk) : goDown l 0 = true ∧
    ∀ (i j : Nat) (io jo : IOper), i < j → is[i]? = some io → is[j]? = some jo → i ∉ (befores l []).getD j [] →
      ¬ (sort io.op = 3 ∧ sort jo.op = 3) ∧ (∀ t, io.dst = some t → t ∉ named jo) ∧ (∀ t, jo.dst = some t → t ∉ named io) ∧ (sort io.op = 2 → sort jo.op = 3 → hasPair i j chk = true) ∧ (sort io.op = 3 → sort jo.op = 2 → hasPair j i chk = true) := by
  unfold drawPairs at h
  simp only [Bool.cond_eq_ite] at h
  split at h
  · rename_i hq
    simp only [Bool.and_eq_true] at hq
    obtain ⟨h1, h2⟩ := hq
    refine ⟨h1, fun i j io jo hij hio hjo hno => ?_⟩
    have hm : (i, j) ∈ (pairs is.length).filter fun (p : Nat × Nat) => !((masks l []).getD p.2 0).testBit p.1 := by
      refine List.mem_filter.2 ⟨pairs_mem hij (List.getElem?_eq_some_iff.1 hjo).1, ?_⟩
      cases hb : ((masks l []).getD j 0).testBit i with
      | false => simp only [hb, Bool.not_false]
      | true => exact absurd (masks_sub l [] [] rfl (fun k i h => by simp at h) j i hb) hno
    have h3 := List.all_eq_true.1 h2 (i, j) hm
    simp only [hio, hjo, Option.map_some, Option.getD_some, Option.bind_some, Bool.and_eq_true] at h3
    obtain ⟨⟨h4, h5⟩, h6⟩ := h3
    simp only [Option.some.injEq] at h
    refine ⟨fun ⟨a, b⟩ => by rw [a, b] at h4; simp at h4, fun t ht => ?_, fun t ht => ?_, fun a b => ?_, fun a b => ?_⟩
    · rw [ht] at h5; simpa using h5
    · rw [ht] at h6; simpa using h6
    · rw [← h]
      refine hasPair_of (List.mem_flatMap.2 ⟨(i, j), hm, ?_⟩)
      simp [hio, hjo, a, b]
    · rw [← h]
      refine hasPair_of (List.mem_flatMap.2 ⟨(i, j), hm, ?_⟩)
      simp [hio, hjo, a, b]
  · cases h

theorem draw_sound (hmix : P.follows .mixedOrders = true) (hcall : CallOk P G call) {base id : Nat} {ops : Array Oper} {is : List IOper} {chk : List (Nat × Nat)} (his : ops.toList.mapM (cOper P G n ops) = some is)
    (hchk : drawPairs ops.toList is = some chk) {ρ : Ren} {m : Mem} {w : World} {fr : Fr} {a : Act} {out : Out} (hR : R base ρ m w) (hG : Globs G ρ) (hF : FrR ρ n fr a)
    (h : evDraw call chk m.next is 0 fr ⟨m.next + is.length, m.tbl⟩ [] [] = some out) : (Code.region id ops true).wp P (Reach base n ρ m w out) a w := by
  obtain ⟨hdown, hopen⟩ := drawPairs_of hchk
  obtain ⟨hlen, hcomp⟩ := mapM_some _ his
  have hlen : ops.size = is.length := by simpa using hlen
  obtain ⟨F, M, V, f0, m0, hout, hcan⟩ := canon_of is 0 fr _ [] [] out h
  simp only [Nat.zero_add] at hout
  subst hout
  have C : Cx P G n call ops is chk m.next F M V := by
    refine ⟨fun i io hi => ?_, fun k o hk => by simpa using hcan.at_ k o hk, fun k o agg x l q hk hl hL hA hp => ?_, hopen⟩
    · have hlt : i < ops.size := by have := (List.getElem?_eq_some_iff.1 hi).1; omega
      exact ⟨ops[i], Array.getElem?_eq_getElem hlt, hcomp i ops[i] io (by simp [hlt]) hi⟩
    · have := hcan.c1 k o agg x l q hk hl (by simpa using hL) (by simpa using hA) (by simpa using hp)
      simpa using this
  refine wp_region_draw fun t => ?_
  have q : Quiet w { w with drawn := w.drawn + 1 } := ⟨rfl, rfl, rfl, rfl⟩
  generalize { w with drawn := w.drawn + 1 } = w1 at q
  have hl := sched_listed hmix ops hdown t
  have hbl := before_listed hdown hl
  generalize Region.schedule (P.follows .mixedOrders) ops t = l at hl hbl
  have hR1 := hR.quiet q
  have hst : Step ρ m w ρ m w1 := .quiet q
  have hget : ∀ b, (M 0).get b = m.get b := fun b => by rw [m0]; rfl
  have hnext : (M 0).next = m.next + is.length := by rw [m0]
  have hR2 : R base ρ (M 0) w1 := ⟨fun b L hb => by rw [hnext]; have := hR1.lt b L hb; omega, fun b L hb => by rw [hget]; exact hR1.blk b L hb,
    fun b c L L' h1 h2 h3 h4 => hR1.inj b c L L' h1 h2 (by unfold Live at *; rwa [hget] at h3) (by unfold Live at *; rwa [hget] at h4), hR1.base, fun b hb => by rw [hget]; exact hR1.clean b (by rw [hnext] at hb; omega)⟩
  have hst2 : Step ρ m w ρ (M 0) w1 := ⟨hst.ext, hst.new, by rw [hnext]; omega, fun b hb hn => by rw [hget], fun b hb hd => by rw [hget]; exact hd, hst.size,
    fun i hi ⟨b, L, h1, h2, h3, h4⟩ => ⟨b, L, h1, by unfold Live at *; rwa [hget] at h2, h3, h4⟩, hst.kept, hst.os, hst.tape, hst.output⟩
  have hcur0 : ∀ t, ∀ k, curU is F V [] t k = (F 0).get t := by
    intro t k
    induction k with
    | zero => rfl
    | succ k ih => simp only [curU]; rw [if_neg (by simp)]; exact ih
  have I : Inv n ops is m.next F M V base ρ m w [] 0 ρ (M 0) fr a w1 := by
    refine ⟨rfl, by simp, by simp, by simp, .inl rfl, hR2, rfl, by rw [hnext]; omega, by simp, fun b _ => rfl, fun j _ hj => ?_, fun j B _ h => absurd h (by omega), fun j _ _ => ?_, hst2, hF, fun t => by rw [hcur0, f0], by rw [f0]⟩
    · exfalso
      apply hj
      cases e : ρ (m.next + j) with
      | none => rfl
      | some L => have := hR.lt _ _ e; omega
    · rw [hget]; exact hR.clean _ (by omega)
  refine draws hcall C hG l [] 0 ρ (M 0) fr a w1 I (fun k i hk => ?_) (fun i hi => .inr ((hl.all i).2 (by omega)))
  refine ⟨by have := (hl.all i).1 (List.mem_of_getElem? hk); omega, by simp, ?_, fun b hb => .inr (hbl i k hk b hb)⟩
  intro hin
  obtain ⟨k', hk'⟩ := List.mem_iff_getElem?.1 hin
  have hlt : k' < k := by have := (List.getElem?_eq_some_iff.1 hk').1; simp at this; omega
  rw [List.getElem?_take, if_pos hlt] at hk'
  have h1 := List.getElem?_eq_some_iff.1 hk
  have h2 := List.getElem?_eq_some_iff.1 hk'
  obtain ⟨g1, e1⟩ := h1
  obtain ⟨g2, e2⟩ := h2
  exact List.pairwise_iff_getElem.1 hl.nodup k' k g2 g1 hlt (by rw [e1, e2])
end
end Go.Proofs.Ythlbifjgnhdonaa.Ev
