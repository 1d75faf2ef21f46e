/- Operations whose order Go leaves open: what the text's order does. -/
import Derived.Test.YthlbifjgnhdonaaEvOps
namespace Go.Proofs.Ythlbifjgnhdonaa.Ev
open Go
section
variable {P : Program} {G : List Nat} {n : Nat} {call : Call} {chk : List (Nat × Nat)} {B0 : Nat}

/-- What the text's order does at one operation. -/
inductive At (call : Call) (B0 : Nat) (o : IOper) (i : Nat) (fr : Fr) (m : Mem) (v : EV) (m' : Mem) : Prop
  | skip (hw : wantedE fr o.guard = some false) (hv : v = .undef) (hm : m' = m)
  | pure (op : IOp) (m1 : Mem) (hw : wantedE fr o.guard = some true) (ho : o.op = .val op) (hs : srt op = 0) (h : evOp fr.eval op m = some (.val v m1)) (hm : m' = m)
  | make (op : IOp) (m1 : Mem) (hw : wantedE fr o.guard = some true) (ho : o.op = .val op) (hs : srt op = 1) (h : evOp fr.eval op ⟨B0 + i, m.tbl⟩ = some (.val v m1)) (hm : m' = ⟨m.next, m1.tbl⟩)
  | load (agg : Option Nat) (a : Opd) (hw : wantedE fr o.guard = some true) (ho : o.op = .val (.load agg a)) (h : m.load agg (fr.eval a) = some v) (hm : m' = m)
  | act (op : IOp) (hw : wantedE fr o.guard = some true) (ho : o.op = .val op) (hs : 3 ≤ srt op) (h : evOp fr.eval op m = some (.val v m'))
  | call (f : Opd) (args : List Opd) (hw : wantedE fr o.guard = some true) (ho : o.op = .call f args) (h : evCall call (fr.eval f) (args.map fr.eval) m = some (.ret v m'))
/-- It acts. -/
def Acts (o : IOper) (fr : Fr) : Prop := wantedE fr o.guard = some true ∧ 3 ≤ sort o.op
def Loads (o : IOper) (fr : Fr) (agg : Option Nat) (a : Opd) : Prop := wantedE fr o.guard = some true ∧ o.op = .val (.load agg a)

/-- The whole of what the text's order does, from operation i on. -/
structure Canon (call : Call) (chk : List (Nat × Nat)) (B0 : Nat) (r : List IOper) (i : Nat) (F : Nat → Fr) (M : Nat → Mem) (V : Nat → EV) : Prop where
  at_ : ∀ k o, r[k]? = some o → At call B0 o (i + k) (F (i + k)) (M (i + k)) (V (i + k)) (M (i + k + 1)) ∧ F (i + k + 1) = (F (i + k)).put o.dst (V (i + k))
  c1 : ∀ k o agg a l q, r[k]? = some o → r[l]? = some q → Loads o (F (i + k)) agg a → Acts q (F (i + l)) → hasPair (i + k) (i + l) chk = true →
    (l < k → (M (i + l)).stands agg ((F (i + k)).eval a) (V (i + k)) = true) ∧ (k < l → (M (i + l + 1)).stands agg ((F (i + k)).eval a) (V (i + k)) = true)
structure CanonOn (call : Call) (chk : List (Nat × Nat)) (B0 : Nat) (r : List IOper) (i : Nat) (snaps : List (Nat × Mem)) (seen : List Seen) (F : Nat → Fr) (M : Nat → Mem) (V : Nat → EV) : Prop extends Canon call chk B0 r i F M V where
  c2 : ∀ k o agg a, r[k]? = some o → Loads o (F (i + k)) agg a → ∀ j mj, (j, mj) ∈ snaps → hasPair (i + k) j chk = true → mj.stands agg ((F (i + k)).eval a) (V (i + k)) = true
  c3 : ∀ l q, r[l]? = some q → Acts q (F (i + l)) → ∀ s, s ∈ seen → hasPair s.i (i + l) chk = true → (M (i + l + 1)).stands s.agg s.a s.v = true

theorem canon_cons {o : IOper} {r : List IOper} {i : Nat} {fr fr' : Fr} {m m' : Mem} {v : EV} {snaps snaps' : List (Nat × Mem)} {seen seen' : List Seen} {F' : Nat → Fr} {M' : Nat → Mem} {V' : Nat → EV}
    (hat : At call B0 o i fr m v m') (hfr : fr' = fr.put o.dst v) (hF : F' (i + 1) = fr') (hM : M' (i + 1) = m') (hc : CanonOn call chk B0 r (i + 1) snaps' seen' F' M' V')
    (hsn : ∀ x, x ∈ snaps → x ∈ snaps') (hse : ∀ x, x ∈ seen → x ∈ seen') (hact : Acts o fr → (i, m) ∈ snaps' ∧ ∀ s, s ∈ seen → hasPair s.i i chk = true → m'.stands s.agg s.a s.v = true)
    (hload : ∀ agg a, Loads o fr agg a → ⟨i, agg, fr.eval a, v⟩ ∈ seen' ∧ ∀ j mj, (j, mj) ∈ snaps → hasPair i j chk = true → mj.stands agg (fr.eval a) v = true) :
    ∃ F M V, F i = fr ∧ M i = m ∧ F (i + (r.length + 1)) = F' (i + 1 + r.length) ∧ M (i + (r.length + 1)) = M' (i + 1 + r.length) ∧ CanonOn call chk B0 (o :: r) i snaps seen F M V := by
  let F : Nat → Fr := fun x => if x = i then fr else F' x
  let M : Nat → Mem := fun x => if x = i then m else M' x
  let V : Nat → EV := fun x => if x = i then v else V' x
  have F0 : F i = fr := if_pos rfl
  have M0 : M i = m := if_pos rfl
  have V0 : V i = v := if_pos rfl
  have FS : ∀ k, F (i + (k + 1)) = F' (i + 1 + k) := fun k => by show (if _ then _ else _) = _; rw [if_neg (by omega)]; congr 1; omega
  have MS : ∀ k, M (i + (k + 1)) = M' (i + 1 + k) := fun k => by show (if _ then _ else _) = _; rw [if_neg (by omega)]; congr 1; omega
  have VS : ∀ k, V (i + (k + 1)) = V' (i + 1 + k) := fun k => by show (if _ then _ else _) = _; rw [if_neg (by omega)]; congr 1; omega
  have F1 : F (i + 0 + 1) = fr' := by have := FS 0; rw [show i + 0 + 1 = i + (0 + 1) by omega, this]; exact hF
  have M1 : M (i + 0 + 1) = m' := by have := MS 0; rw [show i + 0 + 1 = i + (0 + 1) by omega, this]; exact hM
  have FS1 : ∀ k, F (i + (k + 1) + 1) = F' (i + 1 + k + 1) := fun k => by rw [show i + (k + 1) + 1 = i + (k + 1 + 1) by omega, FS]; congr 1
  have MS1 : ∀ k, M (i + (k + 1) + 1) = M' (i + 1 + k + 1) := fun k => by rw [show i + (k + 1) + 1 = i + (k + 1 + 1) by omega, MS]; congr 1
  have pr : ∀ k, i + (k + 1) = i + 1 + k := fun k => by omega
  refine ⟨F, M, V, F0, M0, FS _, MS _, ⟨⟨?_, ?_⟩, ?_, ?_⟩⟩
  · intro k q hk
    cases k with
    | zero =>
      simp at hk; subst hk
      rw [F1, M1]
      simp only [Nat.add_zero, F0, M0, V0]
      exact ⟨hat, hfr⟩
    | succ k =>
      simp at hk
      have := hc.at_ k q hk
      rw [FS, MS, VS, FS1, MS1, pr k]
      exact this
  · intro k p agg a l q hk hl hL hA hp
    cases k with
    | zero =>
      simp at hk; subst hk
      simp only [Nat.add_zero, F0, V0] at hL hp ⊢
      cases l with
      | zero =>
        refine ⟨fun h => absurd h (by omega), fun h => absurd h (by omega)⟩
      | succ l =>
        simp at hl
        refine ⟨fun h => absurd h (by omega), fun _ => ?_⟩
        rw [MS1]
        rw [FS] at hA
        rw [pr l] at hp
        exact hc.c3 l q hl hA _ (hload agg a hL).1 hp
    | succ k =>
      simp at hk
      rw [FS, VS] at *
      cases l with
      | zero =>
        simp at hl; subst hl
        simp only [Nat.add_zero, F0, M0] at hA hp ⊢
        refine ⟨fun _ => ?_, fun h => absurd h (by omega)⟩
        rw [pr k] at hp
        exact hc.c2 k p agg a hk hL i m (hact hA).1 hp
      | succ l =>
        simp at hl
        rw [FS] at hA
        rw [pr k, pr l] at hp
        obtain ⟨g1, g2⟩ := hc.c1 k p agg a l q hk hl hL hA hp
        rw [MS, MS1]
        exact ⟨fun h => g1 (by omega), fun h => g2 (by omega)⟩
  · intro k p agg a hk hL j mj hj hp
    cases k with
    | zero =>
      simp at hk; subst hk
      simp only [Nat.add_zero, F0, V0] at hL hp ⊢
      exact (hload agg a hL).2 j mj hj hp
    | succ k =>
      simp at hk
      rw [FS, VS] at *
      rw [pr k] at hp
      exact hc.c2 k p agg a hk hL j mj (hsn _ hj) hp
  · intro l q hl hA s hs hp
    cases l with
    | zero =>
      simp at hl; subst hl
      rw [M1]
      simp only [Nat.add_zero, F0] at hA hp
      exact (hact hA).2 s hs hp
    | succ l =>
      simp at hl
      rw [MS1]
      rw [FS] at hA
      rw [pr l] at hp
      exact hc.c3 l q hl hA s (hse _ hs) hp
theorem checkSnap_of {i : Nat} {agg : Option Nat} {a v : EV} : ∀ {sn : List (Nat × Mem)}, checkSnap chk i agg a v sn = true → ∀ j mj, (j, mj) ∈ sn → hasPair i j chk = true → mj.stands agg a v = true
  | [], _, j, mj, h, _ => by simp at h
  | (x, y) :: sn, h, j, mj, hm, hp => by
    simp only [checkSnap] at h
    rcases List.mem_cons.1 hm with e | hm
    · cases e
      simp only [hp, cond_true] at h
      cases hs : y.stands agg a v <;> simp only [hs, cond_true, cond_false, Bool.false_eq_true] at h
      rfl
    · have : checkSnap chk i agg a v sn = true := by
        cases hq : hasPair i x chk <;> simp only [hq, cond_true, cond_false] at h
        · exact h
        · cases hs : y.stands agg a v <;> simp only [hs, cond_true, cond_false, Bool.false_eq_true] at h
          exact h
      exact checkSnap_of this j mj hm hp
theorem checkSeen_of {j : Nat} {m : Mem} : ∀ {se : List Seen}, checkSeen chk j m se = true → ∀ s, s ∈ se → hasPair s.i j chk = true → m.stands s.agg s.a s.v = true
  | [], _, s, h, _ => by simp at h
  | x :: se, h, s, hm, hp => by
    simp only [checkSeen] at h
    rcases List.mem_cons.1 hm with e | hm
    · cases e
      simp only [hp, cond_true] at h
      cases hs : m.stands x.agg x.a x.v <;> simp only [hs, cond_true, cond_false, Bool.false_eq_true] at h
      rfl
    · have : checkSeen chk j m se = true := by
        cases hq : hasPair x.i j chk <;> simp only [hq, cond_true, cond_false] at h
        · exact h
        · cases hs : m.stands x.agg x.a x.v <;> simp only [hs, cond_true, cond_false, Bool.false_eq_true] at h
          exact h
      exact checkSeen_of this s hm hp
theorem canon_of : ∀ (r : List IOper) (i : Nat) (fr : Fr) (m : Mem) (snaps : List (Nat × Mem)) (seen : List Seen) (out : Out), evDraw call chk B0 r i fr m snaps seen = some out →
    ∃ F M V, F i = fr ∧ M i = m ∧ out = .norm (F (i + r.length)) (M (i + r.length)) ∧ CanonOn call chk B0 r i snaps seen F M V := by
  intro r
  induction r with
  | nil =>
    intro i fr m snaps seen out h
    simp only [evDraw, Option.some.injEq] at h
    subst h
    exact ⟨fun _ => fr, fun _ => m, fun _ => .undef, rfl, rfl, rfl, ⟨⟨by simp, by simp⟩, by simp, by simp⟩⟩
  | cons o r ih =>
    intro i fr m snaps seen out h
    -- one operation, and what follows
    have go : ∀ {v : EV} {m' : Mem} {snaps' : List (Nat × Mem)} {seen' : List Seen}, At call B0 o i fr m v m' → evDraw call chk B0 r (i + 1) (fr.put o.dst v) m' snaps' seen' = some out →
        (∀ x, x ∈ snaps → x ∈ snaps') → (∀ x, x ∈ seen → x ∈ seen') → (Acts o fr → (i, m) ∈ snaps' ∧ ∀ s, s ∈ seen → hasPair s.i i chk = true → m'.stands s.agg s.a s.v = true) →
        (∀ agg a, Loads o fr agg a → ⟨i, agg, fr.eval a, v⟩ ∈ seen' ∧ ∀ j mj, (j, mj) ∈ snaps → hasPair i j chk = true → mj.stands agg (fr.eval a) v = true) →
        ∃ F M V, F i = fr ∧ M i = m ∧ out = .norm (F (i + (o :: r).length)) (M (i + (o :: r).length)) ∧ CanonOn call chk B0 (o :: r) i snaps seen F M V := by
      intro v m' snaps' seen' hat hr h1 h2 h3 h4
      obtain ⟨F', M', V', e1, e2, e3, hc⟩ := ih (i + 1) _ _ _ _ out hr
      obtain ⟨F, M, V, f1, f2, f3, f4, hcc⟩ := canon_cons hat rfl e1 e2 hc h1 h2 h3 h4
      exact ⟨F, M, V, f1, f2, by rw [List.length_cons, f3, f4]; exact e3, hcc⟩
    simp only [evDraw] at h
    cases hw : wantedE fr o.guard with
    | none => simp [hw] at h
    | some b =>
    cases b with
    | false =>
      simp only [hw] at h
      exact go (.skip hw rfl rfl) h (fun _ h => h) (fun _ h => h) (fun ha => by have := ha.1; rw [hw] at this; cases this) (fun _ _ hl => by have := hl.1; rw [hw] at this; cases this)
    | true =>
      simp only [hw] at h
      cases ho : o.op with
      | panic x => simp [ho] at h
      | defer f x => simp [ho] at h
      | call f args =>
        simp only [ho] at h
        cases hc : evCall call (fr.eval f) (args.map fr.eval) m with
        | none => simp [hc] at h
        | some fin =>
          cases fin with
          | pan v m1 => simp [hc] at h
          | ret v m1 =>
            simp only [hc] at h
            cases hk : checkSeen chk i m1 seen <;> simp only [hk, cond_true, cond_false, reduceCtorEq] at h
            exact go (.call f args hw ho hc) h (fun _ h => List.mem_cons_of_mem _ h) (fun _ h => h) (fun _ => ⟨by simp, checkSeen_of hk⟩) (fun _ _ hl => by have := hl.2; rw [ho] at this; cases this)
      | val op =>
        simp only [ho] at h
        have noact : srt op < 3 → Acts o fr → False := fun hs ha => by have := ha.2; rw [ho] at this; simp only [sort] at this; omega
        have noload : srt op ≠ 2 → ∀ agg a, Loads o fr agg a → False := fun hs agg a hl => by
          have := hl.2; rw [ho] at this; cases this; exact hs rfl
        split at h
        · rename_i hs
          cases hev : evOp fr.eval op m with
          | none => simp [hev] at h
          | some q =>
            obtain ⟨v, m1⟩ := q
            simp only [hev] at h
            exact go (.pure op m1 hw ho hs hev rfl) h (fun _ h => h) (fun _ h => h) (fun ha => (noact (by omega) ha).elim) (fun _ _ hl => (noload (by omega) _ _ hl).elim)
        · rename_i hs
          cases hev : evOp fr.eval op ⟨B0 + i, m.tbl⟩ with
          | none => simp [hev] at h
          | some q =>
            obtain ⟨v, m1⟩ := q
            simp only [hev] at h
            exact go (.make op m1 hw ho hs hev rfl) h (fun _ h => h) (fun _ h => h) (fun ha => (noact (by omega) ha).elim) (fun _ _ hl => (noload (by omega) _ _ hl).elim)
        · rename_i hs
          cases op <;> simp only [reduceCtorEq] at h
          rename_i agg a
          cases hl : m.load agg (fr.eval a) with
          | none => simp [hl] at h
          | some v =>
            simp only [hl] at h
            cases hk : checkSnap chk i agg (fr.eval a) v snaps <;> simp only [hk, cond_true, cond_false, reduceCtorEq] at h
            refine go (.load agg a hw ho hl rfl) h (fun _ h => h) (fun _ h => List.mem_cons_of_mem _ h) (fun ha => (noact (by rw [hs]; omega) ha).elim) (fun agg' a' hl' => ?_)
            have := hl'.2; rw [ho] at this; cases this
            exact ⟨by simp, checkSnap_of hk⟩
        · rename_i h0 h1 h2
          have hs : 3 ≤ srt op := by
            rcases Nat.lt_or_ge (srt op) 3 with h3 | h3
            · exfalso
              have : srt op = 0 ∨ srt op = 1 ∨ srt op = 2 := by omega
              rcases this with e | e | e
              · exact h0 e
              · exact h1 e
              · exact h2 e
            · exact h3
          cases hev : evOp fr.eval op m with
          | none => simp [hev] at h
          | some q =>
            obtain ⟨v, m1⟩ := q
            simp only [hev] at h
            cases hk : checkSeen chk i m1 seen <;> simp only [hk, cond_true, cond_false, reduceCtorEq] at h
            exact go (.act op hw ho hs hev) h (fun _ h => List.mem_cons_of_mem _ h) (fun _ h => h) (fun _ => ⟨by simp, checkSeen_of hk⟩) (fun _ _ hl => (noload (by omega) _ _ hl).elim)
end
end Go.Proofs.Ythlbifjgnhdonaa.Ev
