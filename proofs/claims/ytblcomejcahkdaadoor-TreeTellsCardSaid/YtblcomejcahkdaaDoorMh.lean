/- PTx, WTx1, WTx2, WTx3, WTx4, WTx5, WTx6, EvNd, WTt. -/
import Derived.Lib.ItoaNum
import Derived.Lib.Join
import Derived.Test.YtblcomejcahkdaaDoorMg
set_option linter.unusedSimpArgs false
set_option linter.unusedVariables false
set_option linter.unusedSectionVars false
section
namespace Go.Proofs.YtblcomejcahkdaaDoor.Ev
open Go
set_option maxHeartbeats 4000000
def wordT (d : Nd) : Txt := if d.kind = 5 then signT d.n else (rowF d.kind).word
def headT (d : Nd) : List Txt := (if wordT d ≠ [] then [wordT d] else []) ++ (if d.s ≠ [] then [d.s] else []) ++ (if d.kind = 25 ∨ d.kind = 24 then [kindT d.n] else [])
def trueT : Txt := [116, 114, 117, 101]
def falseT : Txt := [102, 97, 108, 115, 101]
def nilT : Txt := [110, 105, 108]
def shapeT (d : Nd) (ks : List Txt) : Txt :=
  if d.kind = 1 then Go.Lib.itoa d.n else if d.kind = 2 then (if d.n = 1 then trueT else falseT) else if d.kind = 3 then nilT else if d.kind = 4 then d.s
  else 40 :: (Go.Lib.join (headT d ++ ks) [32] ++ [41])
def tellF (l : List Nd) : Nat → Nat → Txt
  | 0, _ => []
  | f + 1, i => match l[i]? with
    | none => []
    | some d => shapeT d (d.kids.map fun x => tellF l f x.toNat)
def tellN (l : List Nd) (i : Nat) : Txt := tellF l (i + 1) i
theorem tellF_more {l : List Nd} (hk : kidsLt l) : ∀ (i f g : Nat), i < f → i < g → tellF l f i = tellF l g i := by
  intro i
  induction i using Nat.strongRecOn with
  | _ i ih =>
    intro f g hf hg
    obtain ⟨f, rfl⟩ : ∃ f', f = f' + 1 := ⟨f - 1, by omega⟩
    obtain ⟨g, rfl⟩ : ∃ g', g = g' + 1 := ⟨g - 1, by omega⟩
    simp only [tellF]
    cases hd : l[i]? with
    | none => rfl
    | some d =>
      simp only
      congr 1
      refine List.map_congr_left fun x hx => ?_
      have := hk i d hd x hx
      exact ih x.toNat (by omega) f g (by omega) (by omega)
theorem tellN_eq {l : List Nd} (hk : kidsLt l) {i : Nat} {d : Nd} (hd : l[i]? = some d) : tellN l i = shapeT d (d.kids.map fun x => tellN l x.toNat) := by
  unfold tellN
  rw [tellF]
  simp only [hd]
  congr 1
  refine List.map_congr_left fun x hx => ?_
  have := hk i d hd x hx
  exact tellF_more hk _ _ _ (by omega) (by omega)
def sumN : List Nat → Nat
  | [] => 0
  | a :: l => a + sumN l
theorem sumN_app : ∀ (a b : List Nat), sumN (a ++ b) = sumN a + sumN b
  | [], b => by simp [sumN]
  | x :: a, b => by simp only [List.cons_append, sumN, sumN_app a b]; omega
def ow (d : Nd) : Nat := 100 + d.s.length
def wgtF (l : List Nd) : Nat → Nat → Nat
  | 0, _ => 0
  | f + 1, i => match l[i]? with
    | none => 0
    | some d => ow d + sumN (d.kids.map fun x => wgtF l f x.toNat)
def wgtN (l : List Nd) (i : Nat) : Nat := wgtF l (i + 1) i
theorem wgtF_more {l : List Nd} (hk : kidsLt l) : ∀ (i f g : Nat), i < f → i < g → wgtF l f i = wgtF l g i := by
  intro i
  induction i using Nat.strongRecOn with
  | _ i ih =>
    intro f g hf hg
    obtain ⟨f, rfl⟩ : ∃ f', f = f' + 1 := ⟨f - 1, by omega⟩
    obtain ⟨g, rfl⟩ : ∃ g', g = g' + 1 := ⟨g - 1, by omega⟩
    simp only [wgtF]
    cases hd : l[i]? with
    | none => rfl
    | some d =>
      simp only
      congr 2
      refine List.map_congr_left fun x hx => ?_
      have := hk i d hd x hx
      exact ih x.toNat (by omega) f g (by omega) (by omega)
theorem wgtN_eq {l : List Nd} (hk : kidsLt l) {i : Nat} {d : Nd} (hd : l[i]? = some d) : wgtN l i = ow d + sumN (d.kids.map fun x => wgtN l x.toNat) := by
  unfold wgtN
  rw [wgtF]
  simp only [hd]
  congr 2
  refine List.map_congr_left fun x hx => ?_
  have := hk i d hd x hx
  exact wgtF_more hk _ _ _ (by omega) (by omega)
theorem sum_erase {α : Type} [DecidableEq α] {w : α → Nat} {x : α} : ∀ {b : List α}, x ∈ b → sumN ((b.erase x).map w) + w x = sumN (b.map w)
  | y :: b, h => by
    rw [List.erase_cons]
    by_cases e : y == x
    · rw [if_pos e]
      have := eq_of_beq e
      subst this
      simp only [List.map_cons, sumN]; omega
    · rw [if_neg e]
      have hx : x ∈ b := by
        rcases List.mem_cons.1 h with rfl | h
        · simp at e
        · exact h
      have := sum_erase (w := w) hx
      simp only [List.map_cons, sumN]; omega
theorem sum_of_sub {α : Type} [DecidableEq α] {w : α → Nat} : ∀ {a b : List α}, a.Nodup → (∀ x ∈ a, x ∈ b) → sumN (a.map w) ≤ sumN (b.map w)
  | [], b, _, _ => Nat.zero_le _
  | x :: a, b, h, hs => by
    rw [List.nodup_cons] at h
    have h1 := sum_of_sub (w := w) (b := b.erase x) h.2 fun y hy => by
      have hne : y ≠ x := by rintro rfl; exact h.1 hy
      exact (List.mem_erase_of_ne hne).2 (hs y (by simp [hy]))
    have h2 := sum_erase (w := w) (hs x (by simp))
    simp only [List.map_cons, sumN]
    omega
theorem sum_part {α : Type} {w : α → Nat} (p : α → Bool) : ∀ b : List α, sumN ((b.filter p).map w) + sumN ((b.filter fun x => !p x).map w) = sumN (b.map w)
  | [] => rfl
  | x :: b => by
    have := sum_part (w := w) p b
    cases h : p x <;> simp [List.filter_cons, h, sumN] <;> omega
def roots (l : List Nd) (i : Nat) : List Int := (upto i).filter fun x => !(usedL (l.take i)).contains x
theorem roots_sum {l : List Nd} (hk : kidsLt l) (hu : (usedL l).Nodup) : ∀ i, i ≤ l.length → sumN ((roots l i).map fun x => wgtN l x.toNat) ≤ sumN ((l.take i).map ow)
  | 0, _ => by simp [roots, upto, sumN]
  | i + 1, hi => by
    have ih := roots_sum hk hu i (by omega)
    have hd : l[i]? = some l[i] := List.getElem?_eq_getElem (by omega)
    have hsn := usedL_snoc hd
    have htk : l.take (i + 1) = l.take i ++ [l[i]] := List.take_succ_eq_append_getElem (by omega)
    have hx := hk i _ hd
    have hnd : (usedL (l.take i) ++ l[i].kids).Nodup := by rw [← hsn]; exact hu.sublist (usedL_pre _)
    generalize l[i] = d at *
    have hup : upto (i + 1) = upto i ++ [(i : Int)] := by unfold upto; rw [List.range_succ, List.map_append]; rfl
    have hU : ∀ x ∈ usedL (l.take i), x < (i : Int) := by
      intro x hx
      obtain ⟨j, e, he, hxe⟩ := usedL_mem.1 hx
      rw [List.getElem?_take] at he
      split at he
      · have := hk j e he x hxe; omega
      · cases he
    rw [List.nodup_append] at hnd
    have e1 : roots l (i + 1) = (roots l i).filter (fun x => !d.kids.contains x) ++ [(i : Int)] := by
      unfold roots
      rw [hsn, hup, List.filter_append, List.filter_filter]
      congr 1
      · refine List.filter_congr fun x hx => ?_
        rw [List.contains_eq_any_beq, List.contains_eq_any_beq, List.contains_eq_any_beq, List.any_append]
        cases (usedL (l.take i)).any (x == ·) <;> cases d.kids.any (x == ·) <;> rfl
      · rw [List.filter_cons, if_pos]
        · rfl
        · have : ¬ ((i : Int) ∈ usedL (l.take i) ++ d.kids) := by
            rw [List.mem_append]
            rintro (q | q)
            · have := hU _ q; omega
            · have := hx _ q; omega
          simpa using this
    have h2 : sumN (d.kids.map fun x => wgtN l x.toNat) ≤ sumN (((roots l i).filter fun x => d.kids.contains x).map fun x => wgtN l x.toNat) := by
      refine sum_of_sub hnd.2.1 fun x hxk => ?_
      rw [List.mem_filter]
      refine ⟨?_, by simpa using hxk⟩
      unfold roots
      rw [List.mem_filter]
      refine ⟨upto_mem.2 ⟨(hx x hxk).1, (hx x hxk).2⟩, ?_⟩
      have : ¬ x ∈ usedL (l.take i) := fun q => hnd.2.2 x q x hxk rfl
      simpa using this
    have h3 := sum_part (w := fun x : Int => wgtN l x.toNat) (fun x => d.kids.contains x) (roots l i)
    have h4 := wgtN_eq hk hd
    rw [e1, htk, List.map_append, List.map_append, sumN_app, sumN_app]
    simp only [List.map_cons, List.map_nil, sumN]
    rw [show ((i : Int)).toNat = i by omega, h4]
    omega
theorem wgt_le {l : List Nd} (hk : kidsLt l) (hu : (usedL l).Nodup) {c : Nat} (hc : ∀ d ∈ l, d.s.length ≤ c) {i : Nat} (hi : i < l.length) : wgtN l i ≤ l.length * (100 + c) := by
  have h := roots_sum hk hu (i + 1) hi
  have hm : (i : Int) ∈ roots l (i + 1) := by
    unfold roots
    rw [List.mem_filter]
    refine ⟨upto_mem.2 ⟨by omega, by omega⟩, ?_⟩
    have : ¬ (i : Int) ∈ usedL (l.take (i + 1)) := by
      intro hx
      obtain ⟨j, e, he, hxe⟩ := usedL_mem.1 hx
      rw [List.getElem?_take] at he
      split at he
      · have := hk j e he _ hxe; omega
      · cases he
    simpa using this
  have h1 := sum_of_sub (w := fun x : Int => wgtN l x.toNat) (a := [(i : Int)]) (b := roots l (i + 1)) (by simp) fun x hx => by rw [List.mem_singleton.1 hx]; exact hm
  have h2 : ∀ k : List Nd, (∀ d ∈ k, d.s.length ≤ c) → sumN (k.map ow) ≤ k.length * (100 + c) := by
    intro k
    induction k with
    | nil => intro _; simp [sumN]
    | cons d k ih =>
      intro h
      have a := ih fun e he => h e (by simp [he])
      have b := h d (by simp)
      simp only [List.map_cons, sumN, List.length_cons, Nat.add_mul, ow] at a ⊢
      omega
  have h3 := h2 (l.take (i + 1)) fun d hd => hc d (List.mem_of_mem_take hd)
  have h4 : (l.take (i + 1)).length * (100 + c) ≤ l.length * (100 + c) := Nat.mul_le_mul_right _ (by rw [List.length_take]; omega)
  simp only [List.map_cons, List.map_nil, sumN] at h1
  rw [show ((i : Int)).toNat = i by omega] at h1
  omega
theorem dec_len : ∀ (k u : Nat), u < 10 ^ (k + 1) → (Go.Lib.decDigits u).length ≤ k + 1
  | 0, u, h => by
    unfold Go.Lib.decDigits
    rw [dif_pos (by simpa using h)]; simp
  | k + 1, u, h => by
    unfold Go.Lib.decDigits
    split
    · simp
    · have := dec_len k (u / 10) (by rw [Nat.pow_succ] at h; omega)
      rw [List.length_append]; simp; omega
theorem itoa_len {n : Int} (h1 : -9223372036854775808 ≤ n) (h2 : n ≤ 9223372036854775807) : (Go.Lib.itoa n).length ≤ 20 := by
  unfold Go.Lib.itoa
  have h := fun u (h : u < 10 ^ 19) => dec_len 18 u h
  split
  · have := h n.natAbs (by omega)
    simp; omega
  · have := h n.toNat (by omega)
    omega
end Go.Proofs.YtblcomejcahkdaaDoor.Ev
end
section
namespace Go.Proofs.YtblcomejcahkdaaDoor.Ev
open Go
set_option maxRecDepth 20000
set_option maxHeartbeats 8000000
theorem sumN_le {α : Type} {f g : α → Nat} : ∀ {a : List α}, (∀ x ∈ a, f x ≤ g x) → sumN (a.map f) ≤ sumN (a.map g)
  | [], _ => Nat.le_refl _
  | x :: a, h => by
    have h1 := h x (by simp)
    have h2 := sumN_le (a := a) fun y hy => h y (by simp [hy])
    simp only [List.map_cons, sumN]; omega
theorem join_len : ∀ (ps : List Txt), (Go.Lib.join ps [32]).length ≤ sumN (ps.map fun p => p.length + 1)
  | [] => by simp [Go.Lib.join_nil]
  | x :: r => by
    rw [Go.Lib.join_cons, List.length_append]
    have : ∀ r : List Txt, (Go.Lib.joinTail [32] r).length = sumN (r.map fun p => p.length + 1) := by
      intro r
      unfold Go.Lib.joinTail
      induction r with
      | nil => rfl
      | cons y r ih => rw [List.map_cons, List.flatten_cons, List.length_append, ih]; simp [sumN]
    rw [this]
    simp only [List.map_cons, sumN]; omega
theorem sign_len (n : Int) : (signT n).length ≤ 2 := by
  unfold signT
  split
  · have : ∀ k : Nat, k < 16 → (opsL.getD k []).length ≤ 2 := by decide
    exact this _ (by omega)
  · simp
theorem word_len (d : Nd) : (wordT d).length ≤ 8 := by
  unfold wordT
  split
  · have := sign_len d.n; omega
  · unfold rowF
    split
    · have : ∀ k : Nat, k < 26 → ((rowsL.getD k zeroR).word).length ≤ 8 := by decide
      exact this _ (by omega)
    · decide
theorem kindT_len (k : Int) : (kindT k).length ≤ 4 := by
  unfold kindT; split; decide; split; decide; split; decide; decide
structure Tidy (l : List Nd) : Prop where
  small : Small l
  len : l.length ≤ 1000
  s : ∀ d ∈ l, d.s.length ≤ 1000
  n : ∀ d ∈ l, -9223372036854775808 ≤ d.n ∧ d.n ≤ 9223372036854775807
theorem head_len (d : Nd) : sumN ((headT d).map fun p => p.length + 1) ≤ d.s.length + 15 := by
  have h1 := word_len d
  have h2 := kindT_len d.n
  unfold headT
  rw [List.map_append, List.map_append, sumN_app, sumN_app]
  split <;> split <;> split <;> simp [sumN] <;> omega
theorem tell_len {l : List Nd} (hk : kidsLt l) (hn : ∀ d ∈ l, -9223372036854775808 ≤ d.n ∧ d.n ≤ 9223372036854775807) : ∀ i, i < l.length → (tellN l i).length + 1 ≤ wgtN l i := by
  intro i
  induction i using Nat.strongRecOn with
  | _ i ih =>
    intro hi
    have hd : l[i]? = some l[i] := List.getElem?_eq_getElem hi
    have hnn := hn _ (List.getElem_mem hi)
    have hx := hk i _ hd
    generalize l[i] = d at *
    rw [tellN_eq hk hd, wgtN_eq hk hd]
    have h1 := itoa_len hnn.1 hnn.2
    have h2 : sumN ((d.kids.map fun x => tellN l x.toNat).map fun p => p.length + 1) ≤ sumN (d.kids.map fun x => wgtN l x.toNat) := by
      rw [List.map_map]
      refine sumN_le fun x hxk => ?_
      have := hx x hxk
      exact ih x.toNat (by omega) (by omega)
    have h3 := join_len (headT d ++ d.kids.map fun x => tellN l x.toNat)
    rw [List.map_append, sumN_app] at h3
    have h4 := head_len d
    unfold shapeT ow
    split
    · omega
    · split
      · split <;> simp [trueT, falseT] <;> omega
      · split
        · simp [nilT]; omega
        · split
          · omega
          · simp only [List.length_cons, List.length_append, List.length_nil]; omega
theorem tell_max {l : List Nd} (ht : Tidy l) (hr : rightP l) {i : Nat} (hi : i < l.length) : (tellN l i).length ≤ 1100000 := by
  have h1 := tell_len hr.1.1 ht.n i hi
  have h2 := wgt_le hr.1.1 hr.1.2.1 ht.s hi
  have h3 : l.length * (100 + 1000) ≤ 1000 * 1100 := Nat.mul_le_mul_right _ ht.len
  omega
def KpM (m0 m : Mem) : Prop := m0.next ≤ m.next ∧ ∀ b, b < m0.next → m.get b = m0.get b
theorem KpM.refl (m : Mem) : KpM m m := ⟨Nat.le_refl _, fun _ _ => rfl⟩
theorem KpM.trans {a b c : Mem} (h : KpM a b) (k : KpM b c) : KpM a c := ⟨Nat.le_trans h.1 k.1, fun x hx => by rw [k.2 x (Nat.lt_of_lt_of_le hx h.1), h.2 x hx]⟩
theorem KpM.ext {m0 m : Mem} (h : KpM m0 m) (xs : List Blk) : KpM m0 (Ev.ext m xs) := ⟨by rw [next_ext]; exact Nat.le_trans h.1 le_nb, fun b hb => by rw [get_ext_old (Nat.lt_of_lt_of_le hb h.1)]; exact h.2 b hb⟩
theorem KpM.bump {m0 m : Mem} (h : KpM m0 m) (k : Nat) : KpM m0 (Ev.bump m k) := ⟨by rw [next_bump]; exact Nat.le_trans h.1 le_nb, fun b hb => by rw [get_bump]; exact h.2 b hb⟩
theorem push1 {m0 m : Mem} {v x : EV} {cs : List EV} {n ty : Nat} (hown : Own m v cs n 1 m0.next) (hk : KpM m0 m) (hn : n < 1000000) :
    ∃ v2 M2, evAppend (ext m [.cells [x] 1 ty false]) ty 1 v (.slice (nb m.next 0) 0 1 (some 1)) = some (v2, M2) ∧ Own M2 v2 (cs ++ [x]) (n + 1) 1 m0.next ∧ KpM m0 M2 := by
  have hM : (ext m [.cells [x] 1 ty false]).get (nb m.next 0) = .cells [x] 1 ty false := by rw [get_ext_nb rfl (by simp)]; rfl
  obtain ⟨ha, hown'⟩ := append_grow (e := ty) (hown.ext [.cells [x] 1 ty false]) (by rw [next_ext]; exact Nat.le_trans hk.1 le_nb) (source_at (cap := some 1) hM rfl) rfl (by decide) (by unfold room; omega)
  refine ⟨_, _, ha, hown', ⟨?_, fun b hb => ?_⟩⟩
  · rw [grow_next, next_ext]; have := hk.1; unfold nb; simp; omega
  · rw [grow_old (by rw [next_ext]; have := hk.1; unfold nb; simp; omega)]
    · rw [get_ext_old (Nat.lt_of_lt_of_le hb hk.1)]; exact hk.2 b hb
    · intro b2 o n2 cap hv
      rcases hown.is with ⟨rfl, _⟩ | ⟨b3, cap3, t3, rfl, h1, _⟩
      · cases hv
      · cases hv; omega
theorem parts_l0 {ws : List Txt} {bw tw : Nat} {m0 : Mem} {v2 v5 v6 : EV} {fr : Fr} (hw : ws.length ≤ 2) (hbw : m0.get bw = .cells (ws.map .str) 1 tw false) (hlt : bw < m0.next) (h2 : fr.get 2 = v2) (h5 : fr.get 5 = v5) (h6 : fr.get 6 = v6) (h8 : fr.get 8 = .nilslice) (h54 : fr.get 54 = .slice bw 0 ws.length (some ws.length)) (h55 : fr.get 55 = .int .i64 (ws.length : Int)) (h56 : fr.get 56 = .int .i64 0) (hd : fr.defers = []) :
    ∃ o, exec U (.loop F_tree_Text_1_l0) fr m0 = some o ∧ ∃ fr' m' v, o = .exit 1 fr' m' ∧ fr'.get 2 = v2 ∧ fr'.get 5 = v5 ∧ fr'.get 6 = v6 ∧ fr'.get 8 = v ∧ Own m' v ((ws.filter (· ≠ [])).map .str) (ws.filter (· ≠ [])).length 1 m0.next ∧ KpM m0 m' ∧ fr'.defers = [] := by
  refine loop_w (σ := Nat) (fun i fr m => i ≤ ws.length ∧ KpM m0 m ∧ fr.get 2 = v2 ∧ fr.get 5 = v5 ∧ fr.get 6 = v6 ∧ (∃ v, fr.get 8 = v ∧ Own m v (((ws.take i).filter (· ≠ [])).map .str) ((ws.take i).filter (· ≠ [])).length 1 m0.next) ∧ fr.get 54 = .slice bw 0 ws.length (some ws.length) ∧ fr.get 55 = .int .i64 (ws.length : Int) ∧ fr.get 56 = .int .i64 (i : Int) ∧ fr.defers = []) (fun i => ws.length - i) _ ?_ 0 fr m0
    ⟨Nat.zero_le _, .refl _, h2, h5, h6, ⟨_, h8, ⟨.inl ⟨rfl, rfl, rfl⟩, rfl⟩⟩, h54, h55, h56, hd⟩
  rintro i fr m ⟨hi, hk, h2, h5, h6, ⟨v, h8, hown⟩, h54, h55, h56, hd⟩
  generalize hX : exec U F_tree_Text_1_l0 fr m = X
  have hbw' := (hk.2 bw hlt).trans hbw
  by_cases hlt2 : i < ws.length
  · have hc : (i : Int) < (ws.length : Int) := by omega
    have hg : ws[i]? = some ws[i] := List.getElem?_eq_getElem hlt2
    have htk : ws.take (i + 1) = ws.take i ++ [ws[i]] := List.take_succ_eq_append_getElem hlt2
    have hix : idx ws.length (.int .i64 (i : Int)) = some i := idx_cast hlt2
    have hw1 := wrap_succ (i := i) (by omega)
    have hfl : ((ws.take i).filter (· ≠ [])).length ≤ 2 := Nat.le_trans (List.length_filter_le _ _) (by rw [List.length_take]; omega)
    generalize ws[i] = s at *
    by_cases he : s = []
    · subst he
      simp +contextual -implicitDefEqProofs (maxSteps := 1000000) (maxDischargeDepth := 8) only [F_tree_Text_1_l0, h2, h5, h6, h8, h54, h55, h56, hd, hc, hbw', hg, hix, hw1, Nat.mul_one, zza, argsF, reduceIte, reduceCtorEq, Nat.reduceEqDiff, Nat.reduceBEq, Nat.reduceAdd, Int.reduceLT, Int.reduceLE, Int.reduceEq, Int.reduceToNat, Int.reduceNeg, Nat.reduceLeDiff, Int.reducePow, implies_true, UInt8.reduceToNat, Int.reduceSub, Int.reduceAdd, Nat.reduceLT, Nat.reduceMul, Nat.reduceSub, Nat.reduceBNe] at hX
      subst hX
      refine lw_norm (i + 1) (by omega) ⟨hlt2, hk, by simp only [h2, zzf, Nat.reduceBEq ], by simp only [h5, zzf, Nat.reduceBEq ], by simp only [h6, zzf, Nat.reduceBEq ], ⟨v, by simp only [h8, zzf, Nat.reduceBEq ], ?_⟩, by simp only [h54, zzf, Nat.reduceBEq ], by simp only [h55, zzf, Nat.reduceBEq ], by simp only [zzf, Nat.reduceBEq ], by simp only [hd, zzf, Nat.reduceBEq ]⟩
      rw [htk, List.filter_append]
      simpa using hown
    · obtain ⟨v2', M2, ha, ho2, hk2⟩ := push1 (x := .str s) (ty := t_string) hown hk (by omega)
      simp +contextual -implicitDefEqProofs (maxSteps := 1000000) (maxDischargeDepth := 8) only [F_tree_Text_1_l0, h2, h5, h6, h8, h54, h55, h56, hd, hc, hbw', hg, hix, hw1, he, ha, Nat.mul_one, zza, argsF, reduceIte, reduceCtorEq, Nat.reduceEqDiff, Nat.reduceBEq, Nat.reduceAdd, Int.reduceLT, Int.reduceLE, Int.reduceEq, Int.reduceToNat, Int.reduceNeg, Nat.reduceLeDiff, Int.reducePow, implies_true, UInt8.reduceToNat, Int.reduceSub, Int.reduceAdd, Nat.reduceLT, Nat.reduceMul, Nat.reduceSub, Nat.reduceBNe] at hX
      subst hX
      refine lw_norm (i + 1) (by omega) ⟨hlt2, hk2, by simp only [h2, zzf, Nat.reduceBEq ], by simp only [h5, zzf, Nat.reduceBEq ], by simp only [h6, zzf, Nat.reduceBEq ], ⟨v2', by simp only [zzf, Nat.reduceBEq ], ?_⟩, by simp only [h54, zzf, Nat.reduceBEq ], by simp only [h55, zzf, Nat.reduceBEq ], by simp only [zzf, Nat.reduceBEq ], by simp only [hd, zzf, Nat.reduceBEq ]⟩
      rw [htk, List.filter_append]
      simpa [he] using ho2
  · have hc : ¬ ((i : Int) < (ws.length : Int)) := by omega
    rw [List.take_of_length_le (by omega)] at hown
    simp +contextual -implicitDefEqProofs (maxSteps := 1000000) (maxDischargeDepth := 8) only [F_tree_Text_1_l0, h2, h5, h6, h8, h54, h55, h56, hd, hc, zza, argsF, reduceIte, reduceCtorEq, Nat.reduceEqDiff, Nat.reduceBEq, Nat.reduceAdd, Int.reduceLT, Int.reduceLE, Int.reduceEq, Int.reduceToNat, Int.reduceNeg, Nat.reduceLeDiff, Int.reducePow, implies_true, UInt8.reduceToNat, Int.reduceSub, Int.reduceAdd, Nat.reduceLT, Nat.reduceMul, Nat.reduceSub, Nat.reduceBNe] at hX
    subst hX
    exact lw_exit ⟨_, _, v, rfl, by simp only [h2, zzf, Nat.reduceBEq ], by simp only [h5, zzf, Nat.reduceBEq ], by simp only [h6, zzf, Nat.reduceBEq ], by simp only [h8, zzf, Nat.reduceBEq ], hown, hk, by simp only [hd, zzf, Nat.reduceBEq ]⟩
end Go.Proofs.YtblcomejcahkdaaDoor.Ev
end
section
namespace Go.Proofs.YtblcomejcahkdaaDoor.Ev
open Go
set_option maxRecDepth 20000
set_option maxHeartbeats 8000000
def TellsT (f : Nat) (args : List EV) (m : Mem) (s : Txt) : Prop := ∃ m', run U f args m = some (.ret (.str s) m') ∧ KpM m m'
structure Cl (m : Mem) (b1 b3 : Nat) (v : EV) : Prop where
  g1 : ∃ t1, m.get b1 = .cells [v] 1 t1 false
  g3 : ∃ t3, m.get b3 = .cells [.func n_tree_Text_1 [] [.ptr b1 0, .ptr b3 0]] 1 t3 false
  l1 : b1 < m.next
  l3 : b3 < m.next
theorem Cl.keep {m m' : Mem} {b1 b3 : Nat} {v : EV} (h : Cl m b1 b3 v) (k : KpM m m') : Cl m' b1 b3 v :=
  ⟨by obtain ⟨t, e⟩ := h.g1; exact ⟨t, (k.2 _ h.l1).trans e⟩, by obtain ⟨t, e⟩ := h.g3; exact ⟨t, (k.2 _ h.l3).trans e⟩, Nat.lt_of_lt_of_le h.l1 k.1, Nat.lt_of_lt_of_le h.l3 k.1⟩
theorem parts_l1 {l : List Nd} {ks : List Int} {b1 b3 : Nat} {vr : EV} {nl : Bool} {m0 : Mem} {vp : EV} {ps : List Txt} {lo : Mem} {fr : Fr} (hks : ks.length < 1001) (hps : ps.length ≤ 10) (hcl : Cl lo b1 b3 vr) (hk0 : KpM lo m0)
    (ih : ∀ x ∈ ks, ∀ m, Cl m b1 b3 vr → TellsT n_tree_Text_1 [.int .i64 x, .ptr b1 0, .ptr b3 0] m (tellN l x.toNat))
    (h2 : fr.get 2 = .ptr b3 0) (h8 : fr.get 8 = vp) (hown : Own m0 vp (ps.map .str) ps.length 1 lo.next) (h82 : fr.get 82 = row nl 0 1 (ints ks)) (h83 : fr.get 83 = .int .i64 (ks.length : Int)) (h84 : fr.get 84 = .int .i64 0) (hd : fr.defers = []) :
    ∃ o, exec U (.loop F_tree_Text_1_l1) fr m0 = some o ∧ ∃ fr' m' v, o = .exit 3 fr' m' ∧ fr'.get 8 = v ∧ Own m' v ((ps ++ ks.map fun x => tellN l x.toNat).map .str) (ps ++ ks.map fun x => tellN l x.toNat).length 1 lo.next ∧ KpM lo m' ∧ fr'.defers = [] := by
  refine loop_w (σ := Nat) (fun i fr m => i ≤ ks.length ∧ KpM lo m ∧ fr.get 2 = .ptr b3 0 ∧ (∃ v, fr.get 8 = v ∧ Own m v ((ps ++ (ks.take i).map fun x => tellN l x.toNat).map .str) (ps ++ (ks.take i).map fun x => tellN l x.toNat).length 1 lo.next) ∧ fr.get 82 = row nl 0 1 (ints ks) ∧ fr.get 83 = .int .i64 (ks.length : Int) ∧ fr.get 84 = .int .i64 (i : Int) ∧ fr.defers = []) (fun i => ks.length - i) _ ?_ 0 fr m0
    ⟨Nat.zero_le _, hk0, h2, ⟨_, h8, by simpa using hown⟩, h82, h83, h84, hd⟩
  rintro i fr m ⟨hi, hk, h2, ⟨v, h8, hown⟩, h82, h83, h84, hd⟩
  generalize hX : exec U F_tree_Text_1_l1 fr m = X
  by_cases hlt2 : i < ks.length
  · have hc : (i : Int) < (ks.length : Int) := by omega
    have hg : ks[i]? = some ks[i] := List.getElem?_eq_getElem hlt2
    have htk : ks.take (i + 1) = ks.take i ++ [ks[i]] := List.take_succ_eq_append_getElem hlt2
    have hix : idx ks.length (.int .i64 (i : Int)) = some i := idx_cast hlt2
    have hw1 := wrap_succ (i := i) (by omega)
    have hmem := List.getElem_mem hlt2
    generalize ks[i] = x at *
    have hcm := hcl.keep hk
    obtain ⟨m1, hr, hk1⟩ := ih x hmem m hcm
    obtain ⟨t3, hg3⟩ := hcm.g3
    have hown1 : Own m1 v ((ps ++ (ks.take i).map fun x => tellN l x.toNat).map .str) (ps ++ (ks.take i).map fun x => tellN l x.toNat).length 1 lo.next := hown.mono hk1.1 fun c hc => hk1.2 c hc
    obtain ⟨v2', M2, ha, ho2, hk2⟩ := push1 (x := .str (tellN l x.toNat)) (ty := t_string) hown1 (hk.trans hk1) (by simp; omega)
    simp +contextual -implicitDefEqProofs (maxSteps := 1000000) (maxDischargeDepth := 8) only [F_tree_Text_1_l1, h2, h8, h82, h83, h84, hd, hc, hg, hix, hw1, hg3, hr, ha, ints_get, ints_len, idx_cast, hlt2, zza, argsF, reduceIte, reduceCtorEq, Nat.reduceEqDiff, Nat.reduceBEq, Nat.reduceAdd, Int.reduceLT, Int.reduceLE, Int.reduceEq, Int.reduceToNat, Int.reduceNeg, Nat.reduceLeDiff, Int.reducePow, implies_true, UInt8.reduceToNat, Int.reduceSub, Int.reduceAdd, Nat.reduceLT, Nat.reduceMul, Nat.reduceSub, Nat.reduceBNe] at hX
    subst hX
    refine lw_norm (i + 1) (by omega) ⟨hlt2, hk2, by simp only [h2, zzf, Nat.reduceBEq ], ⟨v2', by simp only [zzf, Nat.reduceBEq ], ?_⟩, by simp only [h82, zzf, Nat.reduceBEq ], by simp only [h83, zzf, Nat.reduceBEq ], by simp only [zzf, Nat.reduceBEq ], by simp only [hd, zzf, Nat.reduceBEq ]⟩
    rw [htk]
    simpa [List.append_assoc, Nat.add_assoc] using ho2
  · have hc : ¬ ((i : Int) < (ks.length : Int)) := by omega
    rw [List.take_of_length_le (by omega)] at hown
    simp +contextual -implicitDefEqProofs (maxSteps := 1000000) (maxDischargeDepth := 8) only [F_tree_Text_1_l1, h2, h8, h82, h83, h84, hd, hc, zza, argsF, reduceIte, reduceCtorEq, Nat.reduceEqDiff, Nat.reduceBEq, Nat.reduceAdd, Int.reduceLT, Int.reduceLE, Int.reduceEq, Int.reduceToNat, Int.reduceNeg, Nat.reduceLeDiff, Int.reducePow, implies_true, UInt8.reduceToNat, Int.reduceSub, Int.reduceAdd, Nat.reduceLT, Nat.reduceMul, Nat.reduceSub, Nat.reduceBNe] at hX
    subst hX
    exact lw_exit ⟨_, _, v, rfl, by simp only [h8, zzf, Nat.reduceBEq ], hown, hk, by simp only [hd, zzf, Nat.reduceBEq ]⟩
theorem join_run {m : Mem} {v : EV} {ps : List Txt} {lo : Nat} (h : Own m v (ps.map .str) ps.length 1 lo) (hl : ps.length ≤ 100000) (hj : (Go.Lib.join ps [32]).length ≤ 4000000000) : run U n_strings_Join [v, .str [32]] m = some (.ret (.str (Go.Lib.join ps [32])) m) := by
  rw [run_spec (g := joinE) (by unfold U UT PT; rfl)]
  have hs := h.source
  have hst : isStr v = false := by rcases h.is with ⟨rfl, _⟩ | ⟨b, cap, t, rfl, _⟩ <;> rfl
  unfold joinE
  simp only [hs, hst, strOf_map, joinV, Nat.ble_eq_true_of_le (show ps.length ≤ 1000000000 by omega), Nat.ble_eq_true_of_le (show (Go.Lib.join ps [32]).length ≤ 4294967296 by omega), Bool.and_self, cond_true]
theorem itoa_run {n : Int} {m : Mem} (h1 : -9223372036854775808 ≤ n) (h2 : n ≤ 9223372036854775807) : run U n_strconv_Itoa [.int .i64 n] m = some (.ret (.str (Go.Lib.itoa n)) m) := by
  rw [run_pure (g := xItoa) (by unfold U UT PT; rfl)]
  simp only [xItoa, inI64_iff.2 ⟨h1, h2⟩, cond_true, Option.map_some]
theorem fb_true : pureR B K n_strconv_FormatBool [.bool true] = some (.str trueT) := by
  have h : pureR B K n_internal_strconv_FormatBool [.bool true] = some (.str trueT) := pure_closed 10 fun call => by kernel_rfl
  rw [pure_at (by simp [F_strconv_FormatBool])]
  simp +contextual -implicitDefEqProofs (maxSteps := 1000000) (maxDischargeDepth := 8) only [F_strconv_FormatBool, h, zza, argsF, reduceIte, reduceCtorEq, Nat.reduceEqDiff, Nat.reduceBEq, Nat.reduceAdd, Int.reduceLT, Int.reduceLE, Int.reduceEq, Int.reduceToNat, Int.reduceNeg, Nat.reduceLeDiff, Int.reducePow, implies_true, UInt8.reduceToNat, Int.reduceSub, Int.reduceAdd, Nat.reduceLT, Nat.reduceMul, Nat.reduceSub, Nat.reduceBNe]
theorem fb_false : pureR B K n_strconv_FormatBool [.bool false] = some (.str falseT) := by
  have h : pureR B K n_internal_strconv_FormatBool [.bool false] = some (.str falseT) := pure_closed 10 fun call => by kernel_rfl
  rw [pure_at (by simp [F_strconv_FormatBool])]
  simp +contextual -implicitDefEqProofs (maxSteps := 1000000) (maxDischargeDepth := 8) only [F_strconv_FormatBool, h, zza, argsF, reduceIte, reduceCtorEq, Nat.reduceEqDiff, Nat.reduceBEq, Nat.reduceAdd, Int.reduceLT, Int.reduceLE, Int.reduceEq, Int.reduceToNat, Int.reduceNeg, Nat.reduceLeDiff, Int.reducePow, implies_true, UInt8.reduceToNat, Int.reduceSub, Int.reduceAdd, Nat.reduceLT, Nat.reduceMul, Nat.reduceSub, Nat.reduceBNe]
theorem Own.down {m : Mem} {v : EV} {cs : List EV} {n e lo lo2 : Nat} (h : Own m v cs n e lo) (hl : lo2 ≤ lo) : Own m v cs n e lo2 :=
  ⟨by rcases h.is with h | ⟨b, cap, t, h1, h2, h3⟩; exact .inl h; exact .inr ⟨b, cap, t, h1, by omega, h3⟩, h.len⟩
theorem head_len2 (d : Nd) : ((if wordT d ≠ [] then [wordT d] else []) ++ (if d.s ≠ [] then [d.s] else [])).length ≤ 2 := by
  by_cases h1 : wordT d = [] <;> by_cases h2 : d.s = [] <;> simp [h1, h2]
theorem head_len3 (d : Nd) : (headT d).length ≤ 3 := by
  have := head_len2 d
  unfold headT
  rw [List.length_append]
  by_cases h : d.kind = 25 ∨ d.kind = 24
  · rw [if_pos h]; simp only [List.length_cons, List.length_nil]; omega
  · rw [if_neg h]; simp only [List.length_nil]; omega
theorem parts_head (d : Nd) : [wordT d, d.s].filter (· ≠ []) = (if wordT d ≠ [] then [wordT d] else []) ++ (if d.s ≠ [] then [d.s] else []) := by
  by_cases h1 : wordT d = [] <;> by_cases h2 : d.s = [] <;> simp [h1, h2]
theorem text1_run {l : List Nd} {t : Nat} {nl : Bool} (ht : Tidy l) (hr : rightP l) {b1 b3 : Nat} : ∀ i : Nat, i < l.length → ∀ m, Cl m b1 b3 (row nl t 5 (nds l)) → TellsT n_tree_Text_1 [.int .i64 (i : Int), .ptr b1 0, .ptr b3 0] m (tellN l i) := by
  intro i
  induction i using Nat.strongRecOn with
  | _ i ih =>
    intro hi m hcl
    have hd0 : l[i]? = some l[i] := List.getElem?_eq_getElem hi
    have hmem := List.getElem_mem hi
    have hkl : l[i].kids.length < 1001 := by have := kids_of hr.1.1 hr.1.2.1 hmem; have := ht.len; omega
    have hsl := ht.s _ hmem
    have hnn := ht.n _ hmem
    have hx := hr.1.1 i _ hd0
    have htm := tell_max ht hr hi
    have hte := tellN_eq hr.1.1 hd0
    generalize hdd : l[i] = d at *
    have ih' : ∀ x ∈ d.kids, ∀ m, Cl m b1 b3 (row nl t 5 (nds l)) → TellsT n_tree_Text_1 [.int .i64 x, .ptr b1 0, .ptr b3 0] m (tellN l x.toNat) := by
      intro x hxk m hc
      have h1 := hx x hxk
      have := ih x.toNat (by omega) (by omega) m hc
      rw [show ((x.toNat : Nat) : Int) = x by omega] at this
      exact this
    obtain ⟨ty1, hg1⟩ := hcl.g1
    have hix : idx l.length (.int .i64 (i : Int)) = some i := idx_cast hi
    have hrow := tree_rows (k := d.kind)
    unfold TellsT
    rw [run_p2 (by simp [F_tree_Text_1])]
    generalize hL0 : exec (UT B K) (ICode.loop F_tree_Text_1_l0) = L0
    generalize hL1 : exec (UT B K) (ICode.loop F_tree_Text_1_l1) = L1
    have hl1 := hcl.l1
    have hl3 := hcl.l3
    generalize hX : resR _ _ = X
    by_cases k1 : d.kind = 1
    · have hit := fun m => itoa_run (m := m) hnn.1 hnn.2
      have e : tellN l i = Go.Lib.itoa d.n := by rw [hte]; unfold shapeT; rw [if_pos k1]
      rw [e]
      rw [k1] at hrow
      simp +contextual -implicitDefEqProofs (maxSteps := 1000000) (maxDischargeDepth := 8) only [F_tree_Text_1, hg1, hix, hd0, hl1, hl3, nds_get, nds_len, Nd.cells, KRow.cells, hrow, k1, hit, zza, argsF, reduceIte, reduceCtorEq, Nat.reduceEqDiff, Nat.reduceBEq, Nat.reduceAdd, Int.reduceLT, Int.reduceLE, Int.reduceEq, Int.reduceToNat, Int.reduceNeg, Nat.reduceLeDiff, Int.reducePow, implies_true, UInt8.reduceToNat, Int.reduceSub, Int.reduceAdd, Nat.reduceLT, Nat.reduceMul, Nat.reduceSub, Nat.reduceBNe] at hX
      subst hX
      exact ⟨_, rfl, by repeat first | exact KpM.refl _ | apply KpM.ext | apply KpM.bump⟩
    by_cases k2 : d.kind = 2
    · rw [k2] at hrow
      by_cases h1 : d.n = 1
      · have e : tellN l i = trueT := by rw [hte]; unfold shapeT; rw [if_neg k1, if_pos k2, if_pos h1]
        rw [e]
        simp +contextual -implicitDefEqProofs (maxSteps := 1000000) (maxDischargeDepth := 8) only [F_tree_Text_1, hg1, hix, hd0, hl1, hl3, nds_get, nds_len, Nd.cells, KRow.cells, hrow, k2, h1, fb_true, zza, argsF, reduceIte, reduceCtorEq, Nat.reduceEqDiff, Nat.reduceBEq, Nat.reduceAdd, Int.reduceLT, Int.reduceLE, Int.reduceEq, Int.reduceToNat, Int.reduceNeg, Nat.reduceLeDiff, Int.reducePow, implies_true, UInt8.reduceToNat, Int.reduceSub, Int.reduceAdd, Nat.reduceLT, Nat.reduceMul, Nat.reduceSub, Nat.reduceBNe] at hX
        subst hX
        exact ⟨_, rfl, by repeat first | exact KpM.refl _ | apply KpM.ext | apply KpM.bump⟩
      · have e : tellN l i = falseT := by rw [hte]; unfold shapeT; rw [if_neg k1, if_pos k2, if_neg h1]
        rw [e]
        simp +contextual -implicitDefEqProofs (maxSteps := 1000000) (maxDischargeDepth := 8) only [F_tree_Text_1, hg1, hix, hd0, hl1, hl3, nds_get, nds_len, Nd.cells, KRow.cells, hrow, k2, h1, fb_false, zza, argsF, reduceIte, reduceCtorEq, Nat.reduceEqDiff, Nat.reduceBEq, Nat.reduceAdd, Int.reduceLT, Int.reduceLE, Int.reduceEq, Int.reduceToNat, Int.reduceNeg, Nat.reduceLeDiff, Int.reducePow, implies_true, UInt8.reduceToNat, Int.reduceSub, Int.reduceAdd, Nat.reduceLT, Nat.reduceMul, Nat.reduceSub, Nat.reduceBNe] at hX
        subst hX
        exact ⟨_, rfl, by repeat first | exact KpM.refl _ | apply KpM.ext | apply KpM.bump⟩
    by_cases k3 : d.kind = 3
    · have e : tellN l i = (rowF d.kind).word := by rw [hte]; unfold shapeT; rw [if_neg k1, if_neg k2, if_pos k3, k3]; rfl
      rw [e]
      rw [k3] at hrow ⊢
      simp +contextual -implicitDefEqProofs (maxSteps := 1000000) (maxDischargeDepth := 8) only [F_tree_Text_1, hg1, hix, hd0, hl1, hl3, nds_get, nds_len, Nd.cells, KRow.cells, hrow, k3, zza, argsF, reduceIte, reduceCtorEq, Nat.reduceEqDiff, Nat.reduceBEq, Nat.reduceAdd, Int.reduceLT, Int.reduceLE, Int.reduceEq, Int.reduceToNat, Int.reduceNeg, Nat.reduceLeDiff, Int.reducePow, implies_true, UInt8.reduceToNat, Int.reduceSub, Int.reduceAdd, Nat.reduceLT, Nat.reduceMul, Nat.reduceSub, Nat.reduceBNe] at hX
      subst hX
      exact ⟨_, rfl, by repeat first | exact KpM.refl _ | apply KpM.ext | apply KpM.bump⟩
    by_cases k4 : d.kind = 4
    · have e : tellN l i = d.s := by rw [hte]; unfold shapeT; rw [if_neg k1, if_neg k2, if_neg k3, if_pos k4]
      rw [e]
      rw [k4] at hrow
      simp +contextual -implicitDefEqProofs (maxSteps := 1000000) (maxDischargeDepth := 8) only [F_tree_Text_1, hg1, hix, hd0, hl1, hl3, nds_get, nds_len, Nd.cells, KRow.cells, hrow, k4, zza, argsF, reduceIte, reduceCtorEq, Nat.reduceEqDiff, Nat.reduceBEq, Nat.reduceAdd, Int.reduceLT, Int.reduceLE, Int.reduceEq, Int.reduceToNat, Int.reduceNeg, Nat.reduceLeDiff, Int.reducePow, implies_true, UInt8.reduceToNat, Int.reduceSub, Int.reduceAdd, Nat.reduceLT, Nat.reduceMul, Nat.reduceSub, Nat.reduceBNe] at hX
      subst hX
      exact ⟨_, rfl, by repeat first | exact KpM.refl _ | apply KpM.ext | apply KpM.bump⟩
    have e : tellN l i = 40 :: (Go.Lib.join (headT d ++ d.kids.map fun x => tellN l x.toNat) [32] ++ [41]) := by rw [hte]; unfold shapeT; rw [if_neg k1, if_neg k2, if_neg k3, if_neg k4]
    rw [e] at htm ⊢
    simp only [List.length_cons, List.length_append, List.length_nil] at htm
    have cp2 : copies 2 [EV.str []] = [.str [], .str []] := rfl
    have cp1 : copies 1 [EV.str []] = [.str []] := rfl
    by_cases k5 : d.kind = 5
    · have hsg : pureR B K n_tree_Sign [.int .i64 d.n] = some (.str (wordT d)) := by rw [tree_sign (by omega) (by omega)]; unfold wordT; rw [if_pos k5]
      have hword : wordT d = wordT d := rfl
      have hhead : headT d = (if wordT d ≠ [] then [wordT d] else []) ++ (if d.s ≠ [] then [d.s] else []) := by unfold headT; simp [show ¬ (d.kind = 25 ∨ d.kind = 24) by omega]
      rw [k5] at hrow
      simp +contextual -implicitDefEqProofs (maxSteps := 1000000) (maxDischargeDepth := 8) only [F_tree_Text_1, hg1, hix, hd0, hl1, hl3, nds_get, nds_len, Nd.cells, KRow.cells, hrow, k5, hsg, cp2, evOp_bsliceN, bsF_some, zza, argsF, reduceIte, reduceCtorEq, Nat.reduceEqDiff, Nat.reduceBEq, Nat.reduceAdd, Int.reduceLT, Int.reduceLE, Int.reduceEq, Int.reduceToNat, Int.reduceNeg, Nat.reduceLeDiff, Int.reducePow, implies_true, UInt8.reduceToNat, Int.reduceSub, Int.reduceAdd, Nat.reduceLT, Nat.reduceMul, Nat.reduceSub, Nat.reduceBNe] at hX
      subst hL0
      generalize hY : exec _ (.loop F_tree_Text_1_l0) _ _ = Y at hX
      rw [hword] at hY
      generalize hM : ext (bump _ 1) _ = M1 at hY
      have hkm : KpM m M1 := by rw [← hM]; repeat first | exact KpM.refl _ | apply KpM.ext | apply KpM.bump
      have hb4 : M1.get (nb m.next 3) = .cells ([wordT d, d.s].map .str) 1 t_string false := by rw [← hM]; simp +contextual -implicitDefEqProofs (maxSteps := 1000000) (maxDischargeDepth := 8) only [hword, zza, argsF, reduceIte, reduceCtorEq, Nat.reduceEqDiff, Nat.reduceBEq, Nat.reduceAdd, Int.reduceLT, Int.reduceLE, Int.reduceEq, Int.reduceToNat, Int.reduceNeg, Nat.reduceLeDiff, Int.reducePow, implies_true, UInt8.reduceToNat, Int.reduceSub, Int.reduceAdd, Nat.reduceLT, Nat.reduceMul, Nat.reduceSub, Nat.reduceBNe]
      have hb2 : M1.get (nb m.next 0) = .cells d.cells 5 t_api_Node false := by rw [← hM]; simp +contextual -implicitDefEqProofs (maxSteps := 1000000) (maxDischargeDepth := 8) only [Nd.cells, k5, hsg, zza, argsF, reduceIte, reduceCtorEq, Nat.reduceEqDiff, Nat.reduceBEq, Nat.reduceAdd, Int.reduceLT, Int.reduceLE, Int.reduceEq, Int.reduceToNat, Int.reduceNeg, Nat.reduceLeDiff, Int.reducePow, implies_true, UInt8.reduceToNat, Int.reduceSub, Int.reduceAdd, Nat.reduceLT, Nat.reduceMul, Nat.reduceSub, Nat.reduceBNe]
      have hnx : M1.next = nb m.next 4 := by rw [← hM]; simp +contextual -implicitDefEqProofs (maxSteps := 1000000) (maxDischargeDepth := 8) only [zza, argsF, reduceIte, reduceCtorEq, Nat.reduceEqDiff, Nat.reduceBEq, Nat.reduceAdd, Int.reduceLT, Int.reduceLE, Int.reduceEq, Int.reduceToNat, Int.reduceNeg, Nat.reduceLeDiff, Int.reducePow, implies_true, UInt8.reduceToNat, Int.reduceSub, Int.reduceAdd, Nat.reduceLT, Nat.reduceMul, Nat.reduceSub, Nat.reduceBNe]
      obtain ⟨o, rfl, fr1, m1, v1, rfl, g2, g5, g6, g8, ho1, hk1, gd⟩ := looped hY (parts_l0 (ws := [wordT d, d.s]) (bw := nb m.next 3) (tw := t_string) (v2 := .ptr b3 0) (v5 := .ptr (nb m.next 0) 0) (v6 := .ptr (nb m.next 2) 0) (by simp) hb4 (by rw [hnx]; unfold nb; omega) (by simp only [zzf, Nat.reduceBEq ]) (by simp only [zzf, Nat.reduceBEq ]) (by simp only [zzf, Nat.reduceBEq ]) (by simp only [zzf, Nat.reduceBEq ]) (by simp only [zzf, Nat.reduceBEq ]; rfl) (by simp only [zzf, Nat.reduceBEq ]; rfl) (by simp only [zzf, Nat.reduceBEq ]) (by simp only [zzf, Nat.reduceBEq ]))
      rw [parts_head] at ho1
      have hb2' := (hk1.2 (nb m.next 0) (by rw [hnx]; unfold nb; omega)).trans hb2
      simp only [Nd.cells] at hb2'
      have hkm1 : KpM m m1 := hkm.trans hk1
      replace ho1 := ho1.down hkm.1
      rw [← hhead] at ho1
      rw [k5] at hb2'
      simp +contextual -implicitDefEqProofs (maxSteps := 1000000) (maxDischargeDepth := 8) only [g2, g5, g6, g8, gd, hb2', hkm1.1, zza, argsF, reduceIte, reduceCtorEq, Nat.reduceEqDiff, Nat.reduceBEq, Nat.reduceAdd, Int.reduceLT, Int.reduceLE, Int.reduceEq, Int.reduceToNat, Int.reduceNeg, Nat.reduceLeDiff, Int.reducePow, implies_true, UInt8.reduceToNat, Int.reduceSub, Int.reduceAdd, Nat.reduceLT, Nat.reduceMul, Nat.reduceSub, Nat.reduceBNe] at hX
      subst hL1
      generalize hZ : exec _ (.loop F_tree_Text_1_l1) _ _ = Z at hX
      obtain ⟨o, rfl, fr3, m3, v3, rfl, w8, ho3, hk3, wd⟩ := looped hZ (parts_l1 (l := l) (ks := d.kids) (b1 := b1) (b3 := b3) (vr := row nl t 5 (nds l)) (nl := d.nl) (ps := headT d) (lo := m) (vp := v1) hkl (by have := head_len3 d; omega) hcl hkm1 ih' (by simp only [g2, zzf, Nat.reduceBEq ]) (by simp only [g8, zzf, Nat.reduceBEq ]) (by simpa using ho1) (by simp only [zzf, Nat.reduceBEq ]) (by simp only [ints_len, zzf, Nat.reduceBEq ]) (by simp only [zzf, Nat.reduceBEq ]) (by simp only [gd, zzf, Nat.reduceBEq ]))
      have hjr := join_run (m := m3) ho3 (by have hh := head_len3 d; rw [List.length_append, List.length_map]; omega) (by omega)
      have c1 : ∀ s : Txt, s.length ≤ 4000000000 → evBin .add (.str [40]) (.str s) = some (.str (40 :: s)) := fun s hs => by rw [bin_cat, Nat.ble_eq_true_of_le (by simp; omega)]; rfl
      have c2 : ∀ s : Txt, s.length ≤ 4000000000 → evBin .add (.str s) (.str [41]) = some (.str (s ++ [41])) := fun s hs => by rw [bin_cat, Nat.ble_eq_true_of_le (by simp; omega)]; rfl
      have c1' := c1 (Go.Lib.join (headT d ++ d.kids.map fun x => tellN l x.toNat) [32]) (by omega)
      have c2' := c2 (40 :: Go.Lib.join (headT d ++ d.kids.map fun x => tellN l x.toNat) [32]) (by simp; omega)
      simp +contextual -implicitDefEqProofs (maxSteps := 1000000) (maxDischargeDepth := 8) only [w8, wd, hjr, c1', c2', zza, argsF, reduceIte, reduceCtorEq, Nat.reduceEqDiff, Nat.reduceBEq, Nat.reduceAdd, Int.reduceLT, Int.reduceLE, Int.reduceEq, Int.reduceToNat, Int.reduceNeg, Nat.reduceLeDiff, Int.reducePow, implies_true, UInt8.reduceToNat, Int.reduceSub, Int.reduceAdd, Nat.reduceLT, Nat.reduceMul, Nat.reduceSub, Nat.reduceBNe] at hX
      subst hX
      exact ⟨_, rfl, hk3⟩
    by_cases hk : d.kind = 25 ∨ d.kind = 24
    · have hword : (rowF d.kind).word = wordT d := by unfold wordT; rw [if_neg k5]
      have hhead : headT d = ((if wordT d ≠ [] then [wordT d] else []) ++ (if d.s ≠ [] then [d.s] else [])) ++ [kindT d.n] := by unfold headT; simp [hk]
      have hkt : pureR B K n_tree_Kind [.int .i64 d.n] = some (.str (kindT d.n)) := tree_kind
      simp +contextual -implicitDefEqProofs (maxSteps := 1000000) (maxDischargeDepth := 8) only [F_tree_Text_1, hg1, hix, hd0, hl1, hl3, nds_get, nds_len, Nd.cells, KRow.cells, hrow, k1, k2, k3, k4, k5, cp2, evOp_bsliceN, bsF_some, zza, argsF, reduceIte, reduceCtorEq, Nat.reduceEqDiff, Nat.reduceBEq, Nat.reduceAdd, Int.reduceLT, Int.reduceLE, Int.reduceEq, Int.reduceToNat, Int.reduceNeg, Nat.reduceLeDiff, Int.reducePow, implies_true, UInt8.reduceToNat, Int.reduceSub, Int.reduceAdd, Nat.reduceLT, Nat.reduceMul, Nat.reduceSub, Nat.reduceBNe] at hX
      subst hL0
      generalize hY : exec _ (.loop F_tree_Text_1_l0) _ _ = Y at hX
      rw [hword] at hY
      generalize hM : ext (bump _ 1) _ = M1 at hY
      have hkm : KpM m M1 := by rw [← hM]; repeat first | exact KpM.refl _ | apply KpM.ext | apply KpM.bump
      have hb4 : M1.get (nb m.next 3) = .cells ([wordT d, d.s].map .str) 1 t_string false := by rw [← hM]; simp +contextual -implicitDefEqProofs (maxSteps := 1000000) (maxDischargeDepth := 8) only [hword, zza, argsF, reduceIte, reduceCtorEq, Nat.reduceEqDiff, Nat.reduceBEq, Nat.reduceAdd, Int.reduceLT, Int.reduceLE, Int.reduceEq, Int.reduceToNat, Int.reduceNeg, Nat.reduceLeDiff, Int.reducePow, implies_true, UInt8.reduceToNat, Int.reduceSub, Int.reduceAdd, Nat.reduceLT, Nat.reduceMul, Nat.reduceSub, Nat.reduceBNe]
      have hb2 : M1.get (nb m.next 0) = .cells d.cells 5 t_api_Node false := by rw [← hM]; simp +contextual -implicitDefEqProofs (maxSteps := 1000000) (maxDischargeDepth := 8) only [Nd.cells, k1, k2, k3, k4, k5, zza, argsF, reduceIte, reduceCtorEq, Nat.reduceEqDiff, Nat.reduceBEq, Nat.reduceAdd, Int.reduceLT, Int.reduceLE, Int.reduceEq, Int.reduceToNat, Int.reduceNeg, Nat.reduceLeDiff, Int.reducePow, implies_true, UInt8.reduceToNat, Int.reduceSub, Int.reduceAdd, Nat.reduceLT, Nat.reduceMul, Nat.reduceSub, Nat.reduceBNe]
      have hnx : M1.next = nb m.next 4 := by rw [← hM]; simp +contextual -implicitDefEqProofs (maxSteps := 1000000) (maxDischargeDepth := 8) only [zza, argsF, reduceIte, reduceCtorEq, Nat.reduceEqDiff, Nat.reduceBEq, Nat.reduceAdd, Int.reduceLT, Int.reduceLE, Int.reduceEq, Int.reduceToNat, Int.reduceNeg, Nat.reduceLeDiff, Int.reducePow, implies_true, UInt8.reduceToNat, Int.reduceSub, Int.reduceAdd, Nat.reduceLT, Nat.reduceMul, Nat.reduceSub, Nat.reduceBNe]
      obtain ⟨o, rfl, fr1, m1, v1, rfl, g2, g5, g6, g8, ho1, hk1, gd⟩ := looped hY (parts_l0 (ws := [wordT d, d.s]) (bw := nb m.next 3) (tw := t_string) (v2 := .ptr b3 0) (v5 := .ptr (nb m.next 0) 0) (v6 := .ptr (nb m.next 2) 0) (by simp) hb4 (by rw [hnx]; unfold nb; omega) (by simp only [zzf, Nat.reduceBEq ]) (by simp only [zzf, Nat.reduceBEq ]) (by simp only [zzf, Nat.reduceBEq ]) (by simp only [zzf, Nat.reduceBEq ]) (by simp only [zzf, Nat.reduceBEq ]; rfl) (by simp only [zzf, Nat.reduceBEq ]; rfl) (by simp only [zzf, Nat.reduceBEq ]) (by simp only [zzf, Nat.reduceBEq ]))
      rw [parts_head] at ho1
      have hb2' := (hk1.2 (nb m.next 0) (by rw [hnx]; unfold nb; omega)).trans hb2
      simp only [Nd.cells] at hb2'
      have hkm1 : KpM m m1 := hkm.trans hk1
      obtain ⟨v2', M2, ha, ho2, hk2⟩ := push1 (x := .str (kindT d.n)) (ty := t_string) (m0 := M1) ho1 hk1 (by have := head_len2 d; omega)
      have hb2'' := hb2'
      simp +contextual -implicitDefEqProofs (maxSteps := 1000000) (maxDischargeDepth := 8) only [g2, g5, g6, g8, gd, hb2', hkt, hk, cp1, ha, evOp_bsliceN, bsF_some, zza, argsF, reduceIte, reduceCtorEq, Nat.reduceEqDiff, Nat.reduceBEq, Nat.reduceAdd, Int.reduceLT, Int.reduceLE, Int.reduceEq, Int.reduceToNat, Int.reduceNeg, Nat.reduceLeDiff, Int.reducePow, implies_true, UInt8.reduceToNat, Int.reduceSub, Int.reduceAdd, Nat.reduceLT, Nat.reduceMul, Nat.reduceSub, Nat.reduceBNe] at hX
      have hb3 : M2.get (nb m.next 0) = .cells d.cells 5 t_api_Node false := (hk2.2 (nb m.next 0) (by rw [hnx]; unfold nb; omega)).trans hb2
      replace ho2 := ho2.down hkm.1
      replace hk2 := hkm.trans hk2
      simp only [Nd.cells] at hb3
      simp +contextual -implicitDefEqProofs (maxSteps := 1000000) (maxDischargeDepth := 8) only [hb3, zza, argsF, reduceIte, reduceCtorEq, Nat.reduceEqDiff, Nat.reduceBEq, Nat.reduceAdd, Int.reduceLT, Int.reduceLE, Int.reduceEq, Int.reduceToNat, Int.reduceNeg, Nat.reduceLeDiff, Int.reducePow, implies_true, UInt8.reduceToNat, Int.reduceSub, Int.reduceAdd, Nat.reduceLT, Nat.reduceMul, Nat.reduceSub, Nat.reduceBNe] at hX
      subst hL1
      generalize hZ : exec _ (.loop F_tree_Text_1_l1) _ _ = Z at hX
      obtain ⟨o, rfl, fr3, m3, v3, rfl, w8, ho3, hk3, wd⟩ := looped hZ (parts_l1 (l := l) (ks := d.kids) (b1 := b1) (b3 := b3) (vr := row nl t 5 (nds l)) (nl := d.nl) (ps := headT d) (lo := m) (vp := v2') hkl (by have := head_len3 d; omega) hcl hk2 ih' (by simp only [g2, zzf, Nat.reduceBEq ]) (by simp only [g8, zzf, Nat.reduceBEq ]) (by rw [hhead, List.map_append (l₂ := [kindT d.n]), List.length_append (bs := [kindT d.n])]; exact ho2) (by simp only [zzf, Nat.reduceBEq ]) (by simp only [ints_len, zzf, Nat.reduceBEq ]) (by simp only [zzf, Nat.reduceBEq ]) (by simp only [gd, zzf, Nat.reduceBEq ]))
      have hjr := join_run (m := m3) ho3 (by have hh := head_len3 d; rw [List.length_append, List.length_map]; omega) (by omega)
      have c1 : ∀ s : Txt, s.length ≤ 4000000000 → evBin .add (.str [40]) (.str s) = some (.str (40 :: s)) := fun s hs => by rw [bin_cat, Nat.ble_eq_true_of_le (by simp; omega)]; rfl
      have c2 : ∀ s : Txt, s.length ≤ 4000000000 → evBin .add (.str s) (.str [41]) = some (.str (s ++ [41])) := fun s hs => by rw [bin_cat, Nat.ble_eq_true_of_le (by simp; omega)]; rfl
      have c1' := c1 (Go.Lib.join (headT d ++ d.kids.map fun x => tellN l x.toNat) [32]) (by omega)
      have c2' := c2 (40 :: Go.Lib.join (headT d ++ d.kids.map fun x => tellN l x.toNat) [32]) (by simp; omega)
      simp +contextual -implicitDefEqProofs (maxSteps := 1000000) (maxDischargeDepth := 8) only [w8, wd, hjr, c1', c2', zza, argsF, reduceIte, reduceCtorEq, Nat.reduceEqDiff, Nat.reduceBEq, Nat.reduceAdd, Int.reduceLT, Int.reduceLE, Int.reduceEq, Int.reduceToNat, Int.reduceNeg, Nat.reduceLeDiff, Int.reducePow, implies_true, UInt8.reduceToNat, Int.reduceSub, Int.reduceAdd, Nat.reduceLT, Nat.reduceMul, Nat.reduceSub, Nat.reduceBNe] at hX
      subst hX
      exact ⟨_, rfl, hk3⟩
    · have hword : (rowF d.kind).word = wordT d := by unfold wordT; rw [if_neg k5]
      have hhead : headT d = (if wordT d ≠ [] then [wordT d] else []) ++ (if d.s ≠ [] then [d.s] else []) := by unfold headT; simp [hk]
      simp +contextual -implicitDefEqProofs (maxSteps := 1000000) (maxDischargeDepth := 8) only [F_tree_Text_1, hg1, hix, hd0, hl1, hl3, nds_get, nds_len, Nd.cells, KRow.cells, hrow, k1, k2, k3, k4, k5, cp2, evOp_bsliceN, bsF_some, zza, argsF, reduceIte, reduceCtorEq, Nat.reduceEqDiff, Nat.reduceBEq, Nat.reduceAdd, Int.reduceLT, Int.reduceLE, Int.reduceEq, Int.reduceToNat, Int.reduceNeg, Nat.reduceLeDiff, Int.reducePow, implies_true, UInt8.reduceToNat, Int.reduceSub, Int.reduceAdd, Nat.reduceLT, Nat.reduceMul, Nat.reduceSub, Nat.reduceBNe] at hX
      subst hL0
      generalize hY : exec _ (.loop F_tree_Text_1_l0) _ _ = Y at hX
      rw [hword] at hY
      generalize hM : ext (bump _ 1) _ = M1 at hY
      have hkm : KpM m M1 := by rw [← hM]; repeat first | exact KpM.refl _ | apply KpM.ext | apply KpM.bump
      have hb4 : M1.get (nb m.next 3) = .cells ([wordT d, d.s].map .str) 1 t_string false := by rw [← hM]; simp +contextual -implicitDefEqProofs (maxSteps := 1000000) (maxDischargeDepth := 8) only [hword, zza, argsF, reduceIte, reduceCtorEq, Nat.reduceEqDiff, Nat.reduceBEq, Nat.reduceAdd, Int.reduceLT, Int.reduceLE, Int.reduceEq, Int.reduceToNat, Int.reduceNeg, Nat.reduceLeDiff, Int.reducePow, implies_true, UInt8.reduceToNat, Int.reduceSub, Int.reduceAdd, Nat.reduceLT, Nat.reduceMul, Nat.reduceSub, Nat.reduceBNe]
      have hb2 : M1.get (nb m.next 0) = .cells d.cells 5 t_api_Node false := by rw [← hM]; simp +contextual -implicitDefEqProofs (maxSteps := 1000000) (maxDischargeDepth := 8) only [Nd.cells, k1, k2, k3, k4, k5, zza, argsF, reduceIte, reduceCtorEq, Nat.reduceEqDiff, Nat.reduceBEq, Nat.reduceAdd, Int.reduceLT, Int.reduceLE, Int.reduceEq, Int.reduceToNat, Int.reduceNeg, Nat.reduceLeDiff, Int.reducePow, implies_true, UInt8.reduceToNat, Int.reduceSub, Int.reduceAdd, Nat.reduceLT, Nat.reduceMul, Nat.reduceSub, Nat.reduceBNe]
      have hnx : M1.next = nb m.next 4 := by rw [← hM]; simp +contextual -implicitDefEqProofs (maxSteps := 1000000) (maxDischargeDepth := 8) only [zza, argsF, reduceIte, reduceCtorEq, Nat.reduceEqDiff, Nat.reduceBEq, Nat.reduceAdd, Int.reduceLT, Int.reduceLE, Int.reduceEq, Int.reduceToNat, Int.reduceNeg, Nat.reduceLeDiff, Int.reducePow, implies_true, UInt8.reduceToNat, Int.reduceSub, Int.reduceAdd, Nat.reduceLT, Nat.reduceMul, Nat.reduceSub, Nat.reduceBNe]
      obtain ⟨o, rfl, fr1, m1, v1, rfl, g2, g5, g6, g8, ho1, hk1, gd⟩ := looped hY (parts_l0 (ws := [wordT d, d.s]) (bw := nb m.next 3) (tw := t_string) (v2 := .ptr b3 0) (v5 := .ptr (nb m.next 0) 0) (v6 := .ptr (nb m.next 2) 0) (by simp) hb4 (by rw [hnx]; unfold nb; omega) (by simp only [zzf, Nat.reduceBEq ]) (by simp only [zzf, Nat.reduceBEq ]) (by simp only [zzf, Nat.reduceBEq ]) (by simp only [zzf, Nat.reduceBEq ]) (by simp only [zzf, Nat.reduceBEq ]; rfl) (by simp only [zzf, Nat.reduceBEq ]; rfl) (by simp only [zzf, Nat.reduceBEq ]) (by simp only [zzf, Nat.reduceBEq ]))
      rw [parts_head] at ho1
      have hb2' := (hk1.2 (nb m.next 0) (by rw [hnx]; unfold nb; omega)).trans hb2
      simp only [Nd.cells] at hb2'
      have hkm1 : KpM m m1 := hkm.trans hk1
      replace ho1 := ho1.down hkm.1
      rw [← hhead] at ho1
      simp +contextual -implicitDefEqProofs (maxSteps := 1000000) (maxDischargeDepth := 8) only [g2, g5, g6, g8, gd, hb2', hk, hkm1.1, zza, argsF, reduceIte, reduceCtorEq, Nat.reduceEqDiff, Nat.reduceBEq, Nat.reduceAdd, Int.reduceLT, Int.reduceLE, Int.reduceEq, Int.reduceToNat, Int.reduceNeg, Nat.reduceLeDiff, Int.reducePow, implies_true, UInt8.reduceToNat, Int.reduceSub, Int.reduceAdd, Nat.reduceLT, Nat.reduceMul, Nat.reduceSub, Nat.reduceBNe] at hX
      subst hL1
      generalize hZ : exec _ (.loop F_tree_Text_1_l1) _ _ = Z at hX
      obtain ⟨o, rfl, fr3, m3, v3, rfl, w8, ho3, hk3, wd⟩ := looped hZ (parts_l1 (l := l) (ks := d.kids) (b1 := b1) (b3 := b3) (vr := row nl t 5 (nds l)) (nl := d.nl) (ps := headT d) (lo := m) (vp := v1) hkl (by have := head_len3 d; omega) hcl hkm1 ih' (by simp only [g2, zzf, Nat.reduceBEq ]) (by simp only [g8, zzf, Nat.reduceBEq ]) (by simpa using ho1) (by simp only [zzf, Nat.reduceBEq ]) (by simp only [ints_len, zzf, Nat.reduceBEq ]) (by simp only [zzf, Nat.reduceBEq ]) (by simp only [gd, zzf, Nat.reduceBEq ]))
      have hjr := join_run (m := m3) ho3 (by have hh := head_len3 d; rw [List.length_append, List.length_map]; omega) (by omega)
      have c1 : ∀ s : Txt, s.length ≤ 4000000000 → evBin .add (.str [40]) (.str s) = some (.str (40 :: s)) := fun s hs => by rw [bin_cat, Nat.ble_eq_true_of_le (by simp; omega)]; rfl
      have c2 : ∀ s : Txt, s.length ≤ 4000000000 → evBin .add (.str s) (.str [41]) = some (.str (s ++ [41])) := fun s hs => by rw [bin_cat, Nat.ble_eq_true_of_le (by simp; omega)]; rfl
      have c1' := c1 (Go.Lib.join (headT d ++ d.kids.map fun x => tellN l x.toNat) [32]) (by omega)
      have c2' := c2 (40 :: Go.Lib.join (headT d ++ d.kids.map fun x => tellN l x.toNat) [32]) (by simp; omega)
      simp +contextual -implicitDefEqProofs (maxSteps := 1000000) (maxDischargeDepth := 8) only [w8, wd, hjr, c1', c2', zza, argsF, reduceIte, reduceCtorEq, Nat.reduceEqDiff, Nat.reduceBEq, Nat.reduceAdd, Int.reduceLT, Int.reduceLE, Int.reduceEq, Int.reduceToNat, Int.reduceNeg, Nat.reduceLeDiff, Int.reducePow, implies_true, UInt8.reduceToNat, Int.reduceSub, Int.reduceAdd, Nat.reduceLT, Nat.reduceMul, Nat.reduceSub, Nat.reduceBNe] at hX
      subst hX
      exact ⟨_, rfl, hk3⟩
end Go.Proofs.YtblcomejcahkdaaDoor.Ev
end
section
namespace Go.Proofs.YtblcomejcahkdaaDoor.Ev
open Go
set_option maxRecDepth 20000
set_option maxHeartbeats 8000000
open Classical in
noncomputable def treeT (l : List Nd) : Txt := if rightP l then tellN l (l.length - 1) else []
theorem tree_text {l : List Nd} {t : Nat} {nl : Bool} (ht : Tidy l) : pureR B K n_tree_Text [row nl t 5 (nds l)] = some (.str (treeT l)) := by
  have hlen := ht.small.len
  rw [pure_at (by simp [F_tree_Text])]
  have e := fun t nl => tree_right (t := t) (nl := nl) ht.small (fun d hd => (ht.n d hd).2)
  unfold treeT
  by_cases h : rightP l
  · rw [if_pos h]
    have hpos := h.2.1
    have hw : IntKind.i64.wrap ((l.length : Int) - 1) = ((l.length - 1 : Nat) : Int) := by rw [wrap_i64 (by omega) (by omega)]; omega
    have hcl : ∀ ty1 ty3, Cl (ext mem00 [.cells [row nl t 5 (nds l)] 1 ty1 false, .cells [.func n_tree_Text_1 [] [.ptr (nb mem00.next 0) 0, .ptr (nb mem00.next 1) 0]] 1 ty3 false]) (nb mem00.next 0) (nb mem00.next 1) (row nl t 5 (nds l)) := fun ty1 ty3 =>
      ⟨⟨ty1, by rw [get_ext_nb rfl (by simp)]; rfl⟩, ⟨ty3, by rw [get_ext_nb rfl (by simp)]; rfl⟩, by rw [next_ext]; unfold nb; simp, by rw [next_ext]; unfold nb; simp⟩
    obtain ⟨m', hr, _⟩ := text1_run ht h (l.length - 1) (by omega) _ (hcl t_S_api_Node 38)
    simp +contextual -implicitDefEqProofs (maxSteps := 1000000) (maxDischargeDepth := 8) only [F_tree_Text, e, h, hw, hr, nds_len, bo_tt, zza, argsF, reduceIte, reduceCtorEq, Nat.reduceEqDiff, Nat.reduceBEq, Nat.reduceAdd, Int.reduceLT, Int.reduceLE, Int.reduceEq, Int.reduceToNat, Int.reduceNeg, Nat.reduceLeDiff, Int.reducePow, implies_true, UInt8.reduceToNat, Int.reduceSub, Int.reduceAdd, Nat.reduceLT, Nat.reduceMul, Nat.reduceSub, Nat.reduceBNe]
  · rw [if_neg h]
    simp +contextual -implicitDefEqProofs (maxSteps := 1000000) (maxDischargeDepth := 8) only [F_tree_Text, e, h, bo_ff, zza, argsF, reduceIte, reduceCtorEq, Nat.reduceEqDiff, Nat.reduceBEq, Nat.reduceAdd, Int.reduceLT, Int.reduceLE, Int.reduceEq, Int.reduceToNat, Int.reduceNeg, Nat.reduceLeDiff, Int.reducePow, implies_true, UInt8.reduceToNat, Int.reduceSub, Int.reduceAdd, Nat.reduceLT, Nat.reduceMul, Nat.reduceSub, Nat.reduceBNe]
end Go.Proofs.YtblcomejcahkdaaDoor.Ev
end
section
namespace Go.Proofs.YtblcomejcahkdaaDoor.Ev
open Go
set_option maxRecDepth 20000
set_option maxHeartbeats 8000000
def sgn (n : Int) (u : Nat) : Int := if n < 0 then -(u : Int) else (u : Int)
theorem cv_text1 {m : Mem} {x : Int} {ty : Nat} : evConv .text (ext m [.cells [.int .u8 x] 1 ty false]) (.slice (nb m.next 0) 0 1 (some 1)) = some (.str [UInt8.ofNat x.toNat], ext m [.cells [.int .u8 x] 1 ty false]) := by
  have hM : (ext m [.cells [.int .u8 x] 1 ty false]).get (nb m.next 0) = .cells [.int .u8 x] 1 ty false := by rw [get_ext_nb rfl (by simp)]; rfl
  simp only [evConv, Mem.row_pos (show (1 : Nat) ≠ 0 by decide), Mem.row1, hM]
  rfl
theorem sgn_div {n : Int} {u : Nat} : (sgn n u).tdiv 10 = sgn n (u / 10) := by
  unfold sgn
  split
  · rw [Int.neg_tdiv]; rfl
  · rfl
theorem sgn_mod {n : Int} {u : Nat} : (sgn n u).tmod 10 = sgn n (u % 10) := by
  unfold sgn
  split
  · rw [Int.neg_tmod]; rfl
  · rfl
theorem bitoa_loop {n : Int} {N : Nat} (hN : N ≤ 9223372036854775808) {v0 : EV} {m0 : Mem} {fr : Fr} (h0 : fr.get 0 = v0) (h3 : fr.get 3 = .str []) (h4 : fr.get 4 = .int .i64 (sgn n N)) (h0' : N ≠ 0) (hd : fr.defers = []) :
    ∃ o, exec U (.loop F_base_Itoa_l0) fr m0 = some o ∧ ∃ fr' m', o = .exit 0 fr' m' ∧ fr'.get 0 = v0 ∧ fr'.get 3 = .str (Go.Lib.decDigits N) ∧ fr'.defers = [] := by
  have hlen := dec_len 18 N (by omega)
  refine loop_w (σ := Nat) (fun u fr m => u ≤ N ∧ fr.get 0 = v0 ∧ fr.get 4 = .int .i64 (sgn n u) ∧ (∃ s, fr.get 3 = .str s ∧ ((u ≠ 0 ∧ Go.Lib.decDigits N = Go.Lib.decDigits u ++ s) ∨ (u = 0 ∧ Go.Lib.decDigits N = s))) ∧ fr.defers = []) (fun u => u) _ ?_ N fr m0
    ⟨Nat.le_refl _, h0, h4, ⟨[], h3, .inl ⟨h0', by simp⟩⟩, hd⟩
  rintro u fr m ⟨hu, h0, h4, ⟨s, h3, hs⟩, hd⟩
  generalize hX : exec U F_base_Itoa_l0 fr m = X
  by_cases hz : u = 0
  · subst hz
    have e : Go.Lib.decDigits N = s := by rcases hs with ⟨h, _⟩ | ⟨_, h⟩; exact absurd rfl h; exact h
    have hc : sgn n 0 = 0 := by unfold sgn; split <;> rfl
    rw [hc] at h4
    simp +contextual -implicitDefEqProofs (maxSteps := 1000000) (maxDischargeDepth := 8) only [F_base_Itoa_l0, h0, h3, h4, hd, zza, argsF, reduceIte, reduceCtorEq, Nat.reduceEqDiff, Nat.reduceBEq, Nat.reduceAdd, Int.reduceLT, Int.reduceLE, Int.reduceEq, Int.reduceToNat, Int.reduceNeg, Nat.reduceLeDiff, Int.reducePow, implies_true, UInt8.reduceToNat, Int.reduceSub, Int.reduceAdd, Nat.reduceLT, Nat.reduceMul, Nat.reduceSub, Nat.reduceBNe] at hX
    subst hX
    exact lw_exit ⟨_, _, rfl, by simp only [h0, zzf, Nat.reduceBEq ], by simp only [h3, e, zzf, Nat.reduceBEq ], by simp only [hd, zzf, Nat.reduceBEq ]⟩
  · have e : Go.Lib.decDigits N = Go.Lib.decDigits u ++ s := by rcases hs with ⟨_, h⟩ | ⟨h, _⟩; exact h; exact absurd h hz
    have hsl : s.length ≤ 19 := by have := congrArg List.length e; rw [List.length_append] at this; omega
    have hc : ¬ sgn n u = 0 := by unfold sgn; split <;> omega
    have hm := sgn_mod (n := n) (u := u)
    have hq := sgn_div (n := n) (u := u)
    have hwq : IntKind.i64.wrap (sgn n (u / 10)) = sgn n (u / 10) := wrap_i64 (by unfold sgn; split <;> omega) (by unfold sgn; split <;> omega)
    have hw8 : IntKind.u8.wrap (48 + ((u % 10 : Nat) : Int)) = 48 + ((u % 10 : Nat) : Int) := by rw [u8_wrap]; omega
    have hwa : IntKind.i64.wrap (48 + ((u % 10 : Nat) : Int)) = 48 + ((u % 10 : Nat) : Int) := wrap_i64 (by omega) (by omega)
    have hto : (48 + ((u % 10 : Nat) : Int)).toNat = 48 + u % 10 := by omega
    have c1 : evBin .add (.str [UInt8.ofNat (48 + u % 10)]) (.str s) = some (.str (UInt8.ofNat (48 + u % 10) :: s)) := by rw [bin_cat, Nat.ble_eq_true_of_le (by simp; omega)]; rfl
    have cp1 : copies 1 [EV.int .u8 0] = [.int .u8 0] := rfl
    have e2 : (u / 10 ≠ 0 ∧ Go.Lib.decDigits N = Go.Lib.decDigits (u / 10) ++ (UInt8.ofNat (48 + u % 10) :: s)) ∨ (u / 10 = 0 ∧ Go.Lib.decDigits N = UInt8.ofNat (48 + u % 10) :: s) := by
      rw [e]
      by_cases h10 : u < 10
      · refine .inr ⟨by omega, ?_⟩
        unfold Go.Lib.decDigits
        rw [dif_pos h10, show u % 10 = u by omega]; rfl
      · refine .inl ⟨by omega, ?_⟩
        conv => lhs; unfold Go.Lib.decDigits
        rw [dif_neg h10, List.append_assoc]; rfl
    by_cases hng : sgn n (u % 10) < 0
    · have hn0 : n < 0 := by
        refine Classical.byContradiction fun q => ?_
        unfold sgn at hng; rw [if_neg q] at hng; omega
      have hwn : IntKind.i64.wrap (0 - sgn n (u % 10)) = ((u % 10 : Nat) : Int) := by
        have : sgn n (u % 10) = -((u % 10 : Nat) : Int) := by unfold sgn; rw [if_pos hn0]
        rw [this, wrap_i64 (by omega) (by omega)]; omega
      simp +contextual -implicitDefEqProofs (maxSteps := 1000000) (maxDischargeDepth := 8) only [F_base_Itoa_l0, h0, h3, h4, hd, hc, hm, hq, hwq, hng, hwn, hwa, hw8, hto, cp1, cv_text1, c1, evOp_bsliceN, bsF_some, if_false, zza, argsF, reduceIte, reduceCtorEq, Nat.reduceEqDiff, Nat.reduceBEq, Nat.reduceAdd, Int.reduceLT, Int.reduceLE, Int.reduceEq, Int.reduceToNat, Int.reduceNeg, Nat.reduceLeDiff, Int.reducePow, implies_true, UInt8.reduceToNat, Int.reduceSub, Int.reduceAdd, Nat.reduceLT, Nat.reduceMul, Nat.reduceSub, Nat.reduceBNe] at hX
      subst hX
      exact lw_norm (u / 10) (by omega) ⟨by omega, by simp only [h0, zzf, Nat.reduceBEq ], by simp only [zzf, Nat.reduceBEq ], ⟨_, by simp only [zzf, Nat.reduceBEq ], e2⟩, by simp only [hd, zzf, Nat.reduceBEq ]⟩
    · have hsg : sgn n (u % 10) = ((u % 10 : Nat) : Int) := by
        unfold sgn at hng ⊢
        split
        · rename_i q; rw [if_pos q] at hng; omega
        · rfl
      have hng2 : ¬ (((u % 10 : Nat) : Int) < 0) := by omega
      rw [hsg] at hm
      simp +contextual -implicitDefEqProofs (maxSteps := 1000000) (maxDischargeDepth := 8) only [F_base_Itoa_l0, h0, h3, h4, hd, hc, hm, hq, hwq, hng2, hwa, hw8, hto, cp1, cv_text1, c1, evOp_bsliceN, bsF_some, if_false, zza, argsF, reduceIte, reduceCtorEq, Nat.reduceEqDiff, Nat.reduceBEq, Nat.reduceAdd, Int.reduceLT, Int.reduceLE, Int.reduceEq, Int.reduceToNat, Int.reduceNeg, Nat.reduceLeDiff, Int.reducePow, implies_true, UInt8.reduceToNat, Int.reduceSub, Int.reduceAdd, Nat.reduceLT, Nat.reduceMul, Nat.reduceSub, Nat.reduceBNe] at hX
      subst hX
      exact lw_norm (u / 10) (by omega) ⟨by omega, by simp only [h0, zzf, Nat.reduceBEq ], by simp only [zzf, Nat.reduceBEq ], ⟨_, by simp only [zzf, Nat.reduceBEq ], e2⟩, by simp only [hd, zzf, Nat.reduceBEq ]⟩
theorem base_itoa {n : Int} (h1 : -9223372036854775808 ≤ n) (h2 : n ≤ 9223372036854775807) : pureR B K n_base_Itoa [.int .i64 n] = some (.str (Go.Lib.itoa n)) := by
  rw [pure_at (by simp [F_base_Itoa])]
  generalize hL : exec (UT B K) (ICode.loop F_base_Itoa_l0) = L
  by_cases h0 : n = 0
  · subst h0
    have e : Go.Lib.itoa 0 = [48] := by unfold Go.Lib.itoa; rw [if_neg (by decide)]; unfold Go.Lib.decDigits; rw [dif_pos (by decide)]; rfl
    rw [e]
    simp +contextual -implicitDefEqProofs (maxSteps := 1000000) (maxDischargeDepth := 8) only [F_base_Itoa, zza, argsF, reduceIte, reduceCtorEq, Nat.reduceEqDiff, Nat.reduceBEq, Nat.reduceAdd, Int.reduceLT, Int.reduceLE, Int.reduceEq, Int.reduceToNat, Int.reduceNeg, Nat.reduceLeDiff, Int.reducePow, implies_true, UInt8.reduceToNat, Int.reduceSub, Int.reduceAdd, Nat.reduceLT, Nat.reduceMul, Nat.reduceSub, Nat.reduceBNe]
  · simp +contextual -implicitDefEqProofs (maxSteps := 1000000) (maxDischargeDepth := 8) only [F_base_Itoa, h0, zza, argsF, reduceIte, reduceCtorEq, Nat.reduceEqDiff, Nat.reduceBEq, Nat.reduceAdd, Int.reduceLT, Int.reduceLE, Int.reduceEq, Int.reduceToNat, Int.reduceNeg, Nat.reduceLeDiff, Int.reducePow, implies_true, UInt8.reduceToNat, Int.reduceSub, Int.reduceAdd, Nat.reduceLT, Nat.reduceMul, Nat.reduceSub, Nat.reduceBNe]
    subst hL
    generalize hX : exec _ (.loop F_base_Itoa_l0) _ _ = X
    have hsg : n = sgn n n.natAbs := by unfold sgn; split <;> omega
    have hlen := dec_len 18 n.natAbs (by omega)
    obtain ⟨o, rfl, fr', m', rfl, g0, g3, gd⟩ := looped hX (bitoa_loop (n := n) (N := n.natAbs) (v0 := .int .i64 n) (by omega) (by simp only [zzf, Nat.reduceBEq ]) (by simp only [zzf, Nat.reduceBEq ]) (by simp only [← hsg, zzf, Nat.reduceBEq ]) (by omega) (by simp only [zzf, Nat.reduceBEq ]))
    by_cases hn : n < 0
    · have c1 : evBin .add (.str [45]) (.str (Go.Lib.decDigits n.natAbs)) = some (.str (45 :: Go.Lib.decDigits n.natAbs)) := by rw [bin_cat, Nat.ble_eq_true_of_le (by simp; omega)]; rfl
      have e : Go.Lib.itoa n = 45 :: Go.Lib.decDigits n.natAbs := by unfold Go.Lib.itoa; rw [if_pos hn]
      rw [e]
      simp +contextual -implicitDefEqProofs (maxSteps := 1000000) (maxDischargeDepth := 8) only [g0, g3, gd, hn, c1, zza, argsF, reduceIte, reduceCtorEq, Nat.reduceEqDiff, Nat.reduceBEq, Nat.reduceAdd, Int.reduceLT, Int.reduceLE, Int.reduceEq, Int.reduceToNat, Int.reduceNeg, Nat.reduceLeDiff, Int.reducePow, implies_true, UInt8.reduceToNat, Int.reduceSub, Int.reduceAdd, Nat.reduceLT, Nat.reduceMul, Nat.reduceSub, Nat.reduceBNe]
    · have e : Go.Lib.itoa n = Go.Lib.decDigits n.natAbs := by unfold Go.Lib.itoa; rw [if_neg hn, show n.toNat = n.natAbs by omega]
      rw [e]
      simp +contextual -implicitDefEqProofs (maxSteps := 1000000) (maxDischargeDepth := 8) only [g0, g3, gd, hn, zza, argsF, reduceIte, reduceCtorEq, Nat.reduceEqDiff, Nat.reduceBEq, Nat.reduceAdd, Int.reduceLT, Int.reduceLE, Int.reduceEq, Int.reduceToNat, Int.reduceNeg, Nat.reduceLeDiff, Int.reducePow, implies_true, UInt8.reduceToNat, Int.reduceSub, Int.reduceAdd, Nat.reduceLT, Nat.reduceMul, Nat.reduceSub, Nat.reduceBNe]
end Go.Proofs.YtblcomejcahkdaaDoor.Ev
end
section
namespace Go.Proofs.YtblcomejcahkdaaDoor.Ev
open Go
set_option maxRecDepth 20000
set_option maxHeartbeats 8000000
def docW : List Txt := rowsL.map KRow.word
theorem docW_at {d : Nd} (h : 1 ≤ d.kind ∧ d.kind ≤ 26) (h5 : d.kind ≠ 5) : docW[(d.kind - 1).toNat]? = some (wordT d) := by
  unfold wordT rowF
  rw [if_neg h5, if_pos h]
  have hl : (d.kind - 1).toNat < rowsL.length := by show _ < 26; omega
  unfold docW
  rw [List.getElem?_map, List.getElem?_eq_getElem hl, List.getD_eq_getElem?_getD, List.getElem?_eq_getElem hl]; rfl
theorem r06_word {d : Nd} (h : 1 ≤ d.kind ∧ d.kind ≤ 26) (h5 : d.kind = 5 → 1 ≤ d.n ∧ d.n ≤ 16) : pureR B K n_r06_word [.agg d.cells] = some (.str (wordT d)) := by
  rw [pure_at (by simp [F_r06_word])]
  have hf : fillIn (copies 26 [.str []]) [(0, 1, .str []), (1, 1, .str []), (2, 1, .str [110, 105, 108]), (3, 1, .str []), (4, 1, .str []), (5, 1, .str [110, 101, 103]), (6, 1, .str [110, 111, 116]), (7, 1, .str [97, 116]), (8, 1, .str [108, 101, 110]), (9, 1, .str [110, 101, 119]), (10, 1, .str [99, 97, 108, 108]), (11, 1, .str [118, 97, 114]), (12, 1, .str [115, 101, 116]), (13, 1, .str [112, 117, 116]), (14, 1, .str [105, 102]), (15, 1, .str [119, 104, 105, 108, 101]), (16, 1, .str [102, 111, 114]), (17, 1, .str [98, 114, 101, 97, 107]), (18, 1, .str [99, 111, 110, 116, 105, 110, 117, 101]), (19, 1, .str [114, 101, 116, 117, 114, 110]), (20, 1, .str [112, 114, 105, 110, 116]), (21, 1, .str [100, 111]), (22, 1, .str [98, 108, 111, 99, 107]), (23, 1, .str []), (24, 1, .str [102, 110]), (25, 1, .str [112, 114, 111, 103])] = some (docW.map .str) := by kernel_rfl
  by_cases k5 : d.kind = 5
  · have hn := h5 k5
    obtain ⟨n, hnn⟩ : ∃ n : Nat, d.n = (n : Int) + 1 := ⟨(d.n - 1).toNat, by omega⟩
    have hw : IntKind.i64.wrap ((n : Int) + 1 - 1) = (n : Int) := by rw [wrap_i64 (by omega) (by omega)]; omega
    have hi : idx opsL.length (.int .i64 (n : Int)) = some n := idx_cast (by show n < 16; omega)
    have hg : opsL[n]? = some (wordT d) := by
      unfold wordT; rw [if_pos k5, hnn]
      have : ∀ n : Nat, n < 16 → opsL[n]? = some (signT ((n : Int) + 1)) := by decide
      exact this n (by omega)
    simp +contextual -implicitDefEqProofs (maxSteps := 1000000) (maxDischargeDepth := 8) only [F_r06_word, Nd.cells, k5, hnn, hw, hi, hg, ref_signs, hf, strs1_get, strs1_len, evOp_bsliceN, bsF_some, Nat.mul_one, zza, argsF, reduceIte, reduceCtorEq, Nat.reduceEqDiff, Nat.reduceBEq, Nat.reduceAdd, Int.reduceLT, Int.reduceLE, Int.reduceEq, Int.reduceToNat, Int.reduceNeg, Nat.reduceLeDiff, Int.reducePow, implies_true, UInt8.reduceToNat, Int.reduceSub, Int.reduceAdd, Nat.reduceLT, Nat.reduceMul, Nat.reduceSub, Nat.reduceBNe]
  · have hw : IntKind.i64.wrap (d.kind - 1) = (((d.kind - 1).toNat : Nat) : Int) := by rw [wrap_i64 (by omega) (by omega)]; omega
    have hi : idx 26 (.int .i64 (((d.kind - 1).toNat : Nat) : Int)) = some (d.kind - 1).toNat := idx_cast (by omega)
    have hg := docW_at h k5
    simp +contextual -implicitDefEqProofs (maxSteps := 1000000) (maxDischargeDepth := 8) only [F_r06_word, Nd.cells, k5, hw, hi, hg, hf, evOp_bsliceN, bsF_some, Nat.mul_one, zza, argsF, reduceIte, reduceCtorEq, Nat.reduceEqDiff, Nat.reduceBEq, Nat.reduceAdd, Int.reduceLT, Int.reduceLE, Int.reduceEq, Int.reduceToNat, Int.reduceNeg, Nat.reduceLeDiff, Int.reducePow, implies_true, UInt8.reduceToNat, Int.reduceSub, Int.reduceAdd, Nat.reduceLT, Nat.reduceMul, Nat.reduceSub, Nat.reduceBNe]
def frontT (d : Nd) : Txt := wordT d ++ (if d.s ≠ [] ∧ wordT d ≠ [] then [32] else []) ++ d.s ++ (if d.kind = 24 ∨ d.kind = 25 then 32 :: kindT d.n else [])
theorem tail_cons (y : Txt) (r : List Txt) : Go.Lib.joinTail [32] (y :: r) = 32 :: (y ++ Go.Lib.joinTail [32] r) := rfl
theorem tail_app : ∀ (a b : List Txt), Go.Lib.joinTail [32] (a ++ b) = Go.Lib.joinTail [32] a ++ Go.Lib.joinTail [32] b := by
  intro a b; unfold Go.Lib.joinTail; rw [List.map_append, List.flatten_append]
theorem tail_nil : Go.Lib.joinTail [32] [] = [] := rfl
theorem join_head {d : Nd} (h : wordT d ≠ [] ∨ d.s ≠ []) (ks : List Txt) : Go.Lib.join (headT d ++ ks) [32] = frontT d ++ Go.Lib.joinTail [32] ks := by
  unfold headT frontT
  by_cases h1 : wordT d = []
  · have h2 : d.s ≠ [] := by rcases h with h | h; exact absurd h1 h; exact h
    by_cases h3 : d.kind = 25 ∨ d.kind = 24
    · simp [h1, h2, h3, h3.symm, Go.Lib.join_cons, tail_cons, tail_app]
    · have h4 : ¬ (d.kind = 24 ∨ d.kind = 25) := fun q => h3 q.symm
      simp [h1, h2, h3, h4, Go.Lib.join_cons, tail_cons, tail_app]
  · by_cases h2 : d.s = []
    · by_cases h3 : d.kind = 25 ∨ d.kind = 24
      · simp [h1, h2, h3, h3.symm, Go.Lib.join_cons, tail_cons, tail_app]
      · have h4 : ¬ (d.kind = 24 ∨ d.kind = 25) := fun q => h3 q.symm
        simp [h1, h2, h3, h4, Go.Lib.join_cons, tail_cons, tail_app]
    · by_cases h3 : d.kind = 25 ∨ d.kind = 24
      · simp [h1, h2, h3, h3.symm, Go.Lib.join_cons, tail_cons, tail_app]
      · have h4 : ¬ (d.kind = 24 ∨ d.kind = 25) := fun q => h3 q.symm
        simp [h1, h2, h3, h4, Go.Lib.join_cons, tail_cons, tail_app]
theorem own_shown {d : Nd} (h : ownP d) (h5 : 5 ≤ d.kind) : (1 ≤ d.kind ∧ d.kind ≤ 26) ∧ (d.kind = 5 → 1 ≤ d.n ∧ d.n ≤ 16) ∧ (wordT d ≠ [] ∨ d.s ≠ []) := by
  unfold ownP at h
  obtain ⟨h1, h2, h3⟩ := h
  simp only [not_or, Classical.not_not] at h1
  have hk : 1 ≤ d.kind ∧ d.kind ≤ 26 := by omega
  have hn5 : d.kind = 5 → 1 ≤ d.n ∧ d.n ≤ 16 := by
    intro k; rw [k] at h3; simpa using h3
  refine ⟨hk, hn5, ?_⟩
  by_cases k24 : d.kind = 24
  · exact .inr (h1.2.1 (by rw [k24]; decide))
  · left
    unfold wordT
    by_cases k5 : d.kind = 5
    · rw [if_pos k5]
      have := hn5 k5
      obtain ⟨n, hn⟩ : ∃ n : Nat, d.n = (n : Int) + 1 := ⟨(d.n - 1).toNat, by omega⟩
      rw [hn]
      have : ∀ n : Nat, n < 16 → signT ((n : Int) + 1) ≠ [] := by decide
      exact this n (by omega)
    · rw [if_neg k5]
      unfold rowF
      rw [if_pos hk]
      have : ∀ k : Nat, k < 26 → 4 < k → k ≠ 23 → (rowsL.getD k zeroR).word ≠ [] := by decide
      exact this _ (by omega) (by omega) (by omega)
theorem own_nil {d : Nd} (h : ownP d) (h5 : d.kind = 3) : d.s = [] := by
  unfold ownP at h
  have h1 := h.1
  simp only [not_or, Classical.not_not] at h1
  refine Classical.byContradiction fun q => ?_
  have := h1.2.2 q
  rw [h5] at this
  exact absurd this (by decide)
theorem tell_loop {l : List Nd} {t b5 ty : Nat} {nl : Bool} {d : Nd} {s0 : Txt} (hx : ∀ x ∈ d.kids, 0 ≤ x) (hkl : d.kids.length < 1001) (ih : ∀ x ∈ d.kids, pureR B K n_r06_Tell [row nl 1 5 (nds l), .int .i64 x] = some (.str (tellN l x.toNat))) {m0 : Mem} (hb5 : m0.get b5 = .cells d.cells 5 ty false) (hmax : (s0 ++ Go.Lib.joinTail [32] (d.kids.map fun x => tellN l x.toNat)).length ≤ 2000000) {fr : Fr} (h0 : fr.get 0 = row nl t 5 (nds l)) (h5 : fr.get 5 = .ptr b5 0) (h6 : fr.get 6 = .str s0) (h7 : fr.get 7 = .int .i64 0) (hd : fr.defers = []) :
    ∃ o, exec U (.loop F_r06_Tell_l0) fr m0 = some o ∧ ∃ fr', o = .exit 0 fr' m0 ∧ fr'.get 6 = .str (s0 ++ Go.Lib.joinTail [32] (d.kids.map fun x => tellN l x.toNat)) ∧ fr'.defers = [] := by
  simp only [Nd.cells] at hb5
  refine loop_w (σ := Nat) (fun j fr m => m = m0 ∧ j ≤ d.kids.length ∧ fr.get 0 = row nl t 5 (nds l) ∧ fr.get 5 = .ptr b5 0 ∧ fr.get 6 = .str (s0 ++ Go.Lib.joinTail [32] ((d.kids.take j).map fun x => tellN l x.toNat)) ∧ fr.get 7 = .int .i64 (j : Int) ∧ fr.defers = []) (fun j => d.kids.length - j) _ ?_ 0 fr m0 ⟨rfl, Nat.zero_le _, h0, h5, by simpa [tail_nil] using h6, h7, hd⟩
  rintro j fr m ⟨rfl, hj, h0, h5, h6, h7, hd⟩
  generalize hX : exec U F_r06_Tell_l0 fr m = X
  by_cases hlt : j < d.kids.length
  · have hc : (j : Int) < (d.kids.length : Int) := by omega
    have hg : d.kids[j]? = some d.kids[j] := List.getElem?_eq_getElem hlt
    have htk : d.kids.take (j + 1) = d.kids.take j ++ [d.kids[j]] := List.take_succ_eq_append_getElem hlt
    have hdk : d.kids = d.kids.take (j + 1) ++ d.kids.drop (j + 1) := (List.take_append_drop _ _).symm
    have hmem := List.getElem_mem hlt
    generalize d.kids[j] = x at *
    have hih := ih x hmem
    have hw1 := wrap_succ (i := j) (by omega)
    generalize hA : s0 ++ Go.Lib.joinTail [32] ((d.kids.take j).map fun x => tellN l x.toNat) = A at *
    have hnext : s0 ++ Go.Lib.joinTail [32] ((d.kids.take (j + 1)).map fun x => tellN l x.toNat) = A ++ [32] ++ tellN l x.toNat := by
      rw [htk, List.map_append, tail_app, ← List.append_assoc, hA, List.append_assoc]; simp [tail_cons, tail_nil]
    have hlen : (A ++ [32] ++ tellN l x.toNat).length ≤ 2000000 := by
      rw [← hnext]
      refine Nat.le_trans ?_ hmax
      conv => rhs; rw [hdk]
      rw [List.map_append, tail_app, List.length_append, List.length_append, List.length_append]; omega
    simp only [List.length_append, List.length_cons, List.length_nil] at hlen
    have c1 : evBin .add (.str A) (.str [32]) = some (.str (A ++ [32])) := by rw [bin_cat, Nat.ble_eq_true_of_le (by simp; omega)]; rfl
    have c2 : evBin .add (.str (A ++ [32])) (.str (tellN l x.toNat)) = some (.str (A ++ [32] ++ tellN l x.toNat)) := by rw [bin_cat, Nat.ble_eq_true_of_le (by simp; omega)]; rfl
    simp +contextual -implicitDefEqProofs (maxSteps := 1000000) (maxDischargeDepth := 8) only [F_r06_Tell_l0, h0, h5, h6, h7, hd, hb5, hc, hg, hlt, hw1, hih, c1, c2, idx_cast, ints_get, ints_len, zza, argsF, reduceIte, reduceCtorEq, Nat.reduceEqDiff, Nat.reduceBEq, Nat.reduceAdd, Int.reduceLT, Int.reduceLE, Int.reduceEq, Int.reduceToNat, Int.reduceNeg, Nat.reduceLeDiff, Int.reducePow, implies_true, UInt8.reduceToNat, Int.reduceSub, Int.reduceAdd, Nat.reduceLT, Nat.reduceMul, Nat.reduceSub, Nat.reduceBNe] at hX
    subst hX
    exact lw_norm (j + 1) (by omega) ⟨rfl, hlt, by simp only [h0, zzf, Nat.reduceBEq ], by simp only [h5, zzf, Nat.reduceBEq ], by simp only [hnext, zzf, Nat.reduceBEq ], by simp only [zzf, Nat.reduceBEq ], by simp only [hd, zzf, Nat.reduceBEq ]⟩
  · have hc : ¬ ((j : Int) < (d.kids.length : Int)) := by omega
    rw [List.take_of_length_le (by omega)] at h6
    simp +contextual -implicitDefEqProofs (maxSteps := 1000000) (maxDischargeDepth := 8) only [F_r06_Tell_l0, h0, h5, h6, h7, hd, hb5, hc, ints_len, zza, argsF, reduceIte, reduceCtorEq, Nat.reduceEqDiff, Nat.reduceBEq, Nat.reduceAdd, Int.reduceLT, Int.reduceLE, Int.reduceEq, Int.reduceToNat, Int.reduceNeg, Nat.reduceLeDiff, Int.reducePow, implies_true, UInt8.reduceToNat, Int.reduceSub, Int.reduceAdd, Nat.reduceLT, Nat.reduceMul, Nat.reduceSub, Nat.reduceBNe] at hX
    subst hX
    exact lw_exit ⟨_, rfl, by simp only [h6, zzf, Nat.reduceBEq ], by simp only [hd, zzf, Nat.reduceBEq ]⟩
end Go.Proofs.YtblcomejcahkdaaDoor.Ev
end
section
namespace Go.Proofs.YtblcomejcahkdaaDoor.Ev
open Go
set_option maxRecDepth 20000
set_option maxHeartbeats 8000000
theorem cat_ok {a b : Txt} (h : a.length + b.length ≤ 4000000000) : evBin .add (.str a) (.str b) = some (.str (a ++ b)) := by rw [bin_cat, Nat.ble_eq_true_of_le (by omega)]; rfl
theorem ref_tell {l : List Nd} {nl : Bool} (ht : Tidy l) (hr : rightP l) : ∀ i : Nat, i < l.length → ∀ t, pureR B K n_r06_Tell [row nl t 5 (nds l), .int .i64 (i : Int)] = some (.str (tellN l i)) := by
  intro i
  induction i using Nat.strongRecOn with
  | _ i ih =>
    intro hi t
    have hd0 : l[i]? = some l[i] := List.getElem?_eq_getElem hi
    have hmem := List.getElem_mem hi
    have hkl : l[i].kids.length < 1001 := by have := kids_of hr.1.1 hr.1.2.1 hmem; have := ht.len; omega
    have hsl := ht.s _ hmem
    have hnn := ht.n _ hmem
    have hx := hr.1.1 i _ hd0
    have htm := tell_max ht hr hi
    have hte := tellN_eq hr.1.1 hd0
    have hown := (hr.1.2.2 _ hmem).1
    generalize hdd : l[i] = d at *
    have ih' : ∀ x ∈ d.kids, pureR B K n_r06_Tell [row nl 1 5 (nds l), .int .i64 x] = some (.str (tellN l x.toNat)) := by
      intro x hxk
      have h1 := hx x hxk
      have := ih x.toNat (by omega) (by omega) 1
      rw [show ((x.toNat : Nat) : Int) = x by omega] at this
      exact this
    have hix : idx l.length (.int .i64 (i : Int)) = some i := idx_cast hi
    rw [pure_at (by simp [F_r06_Tell])]
    generalize hL : exec (UT B K) (ICode.loop F_r06_Tell_l0) = L
    have hkr : 1 ≤ d.kind ∧ d.kind ≤ 26 := by
      have h1 := hown.1
      simp only [not_or, Classical.not_not] at h1
      omega
    by_cases k1 : d.kind = 1
    · have hit := base_itoa hnn.1 hnn.2
      have e : tellN l i = Go.Lib.itoa d.n := by rw [hte]; unfold shapeT; rw [if_pos k1]
      rw [e]
      simp +contextual -implicitDefEqProofs (maxSteps := 1000000) (maxDischargeDepth := 8) only [F_r06_Tell, hix, hd0, nds_get, nds_len, Nd.cells, k1, hit, zza, argsF, reduceIte, reduceCtorEq, Nat.reduceEqDiff, Nat.reduceBEq, Nat.reduceAdd, Int.reduceLT, Int.reduceLE, Int.reduceEq, Int.reduceToNat, Int.reduceNeg, Nat.reduceLeDiff, Int.reducePow, implies_true, UInt8.reduceToNat, Int.reduceSub, Int.reduceAdd, Nat.reduceLT, Nat.reduceMul, Nat.reduceSub, Nat.reduceBNe]
    by_cases k2 : d.kind = 2
    · by_cases h1 : d.n = 1
      · have e : tellN l i = trueT := by rw [hte]; unfold shapeT; rw [if_neg k1, if_pos k2, if_pos h1]
        rw [e]
        simp +contextual -implicitDefEqProofs (maxSteps := 1000000) (maxDischargeDepth := 8) only [F_r06_Tell, hix, hd0, nds_get, nds_len, Nd.cells, k2, h1, trueT, zza, argsF, reduceIte, reduceCtorEq, Nat.reduceEqDiff, Nat.reduceBEq, Nat.reduceAdd, Int.reduceLT, Int.reduceLE, Int.reduceEq, Int.reduceToNat, Int.reduceNeg, Nat.reduceLeDiff, Int.reducePow, implies_true, UInt8.reduceToNat, Int.reduceSub, Int.reduceAdd, Nat.reduceLT, Nat.reduceMul, Nat.reduceSub, Nat.reduceBNe]
      · have e : tellN l i = falseT := by rw [hte]; unfold shapeT; rw [if_neg k1, if_pos k2, if_neg h1]
        rw [e]
        simp +contextual -implicitDefEqProofs (maxSteps := 1000000) (maxDischargeDepth := 8) only [F_r06_Tell, hix, hd0, nds_get, nds_len, Nd.cells, k2, h1, falseT, zza, argsF, reduceIte, reduceCtorEq, Nat.reduceEqDiff, Nat.reduceBEq, Nat.reduceAdd, Int.reduceLT, Int.reduceLE, Int.reduceEq, Int.reduceToNat, Int.reduceNeg, Nat.reduceLeDiff, Int.reducePow, implies_true, UInt8.reduceToNat, Int.reduceSub, Int.reduceAdd, Nat.reduceLT, Nat.reduceMul, Nat.reduceSub, Nat.reduceBNe]
    have hwd : pureR B K n_r06_word [.agg [.int .i64 d.kind, row d.nl 0 1 (ints d.kids), .int .i64 d.n, .str d.s, .int .i64 d.pos]] = some (.str (wordT d)) := by
      refine r06_word hkr fun k5 => ?_
      exact (own_shown hown (by omega)).2.1 k5
    have hwl := word_len d
    by_cases k34 : d.kind ≤ 4
    · have e : tellN l i = wordT d ++ d.s := by
        rw [hte]; unfold shapeT
        rw [if_neg k1, if_neg k2]
        by_cases k3 : d.kind = 3
        · rw [if_pos k3, own_nil hown k3, List.append_nil]; unfold wordT rowF; rw [if_neg (by omega), if_pos hkr, k3]; rfl
        · have k4 : d.kind = 4 := by omega
          rw [if_neg k3, if_pos k4]
          have : wordT d = [] := by unfold wordT rowF; rw [if_neg (by omega), if_pos hkr, k4]; rfl
          rw [this, List.nil_append]
      rw [e]
      have hc := cat_ok (a := wordT d) (b := d.s) (by omega)
      simp +contextual -implicitDefEqProofs (maxSteps := 1000000) (maxDischargeDepth := 8) only [F_r06_Tell, hix, hd0, nds_get, nds_len, Nd.cells, k1, k2, k34, hwd, hc, zza, argsF, reduceIte, reduceCtorEq, Nat.reduceEqDiff, Nat.reduceBEq, Nat.reduceAdd, Int.reduceLT, Int.reduceLE, Int.reduceEq, Int.reduceToNat, Int.reduceNeg, Nat.reduceLeDiff, Int.reducePow, implies_true, UInt8.reduceToNat, Int.reduceSub, Int.reduceAdd, Nat.reduceLT, Nat.reduceMul, Nat.reduceSub, Nat.reduceBNe]
    obtain ⟨hk, h5, hne⟩ := own_shown hown (by omega)
    have k3 : d.kind ≠ 3 := by omega
    have k4 : d.kind ≠ 4 := by omega
    have e : tellN l i = 40 :: (frontT d ++ Go.Lib.joinTail [32] (d.kids.map fun x => tellN l x.toNat) ++ [41]) := by rw [hte]; unfold shapeT; rw [if_neg k1, if_neg k2, if_neg k3, if_neg k4, join_head hne]
    rw [e] at htm ⊢
    simp only [List.length_cons, List.length_append, List.length_nil] at htm
    have hkt : pureR B K n_r06_Kind [.int .i64 d.n] = some (.str (kindT d.n)) := ref_kind (by omega) (by omega)
    have hktl := kindT_len d.n
    have c5 := cat_ok (a := [40]) (b := frontT d ++ Go.Lib.joinTail [32] (d.kids.map fun x => tellN l x.toNat)) (by simp; omega)
    have c6 := cat_ok (a := 40 :: (frontT d ++ Go.Lib.joinTail [32] (d.kids.map fun x => tellN l x.toNat))) (b := [41]) (by simp; omega)
    by_cases hs1 : d.s = []
    · rw [hs1] at hwd
      by_cases hk2 : d.kind = 24 ∨ d.kind = 25
      · have hf : frontT d = wordT d ++ [32] ++ kindT d.n := by unfold frontT; simp [hs1, hk2]
        have c10 : evBin .add (.str (wordT d)) (.str ([])) = some (.str (wordT d)) := by have := cat_ok (a := wordT d) (b := []) (by simp; omega); simpa using this
        have c11 : evBin .add (.str (wordT d)) (.str ([32])) = some (.str (wordT d ++ [32])) := by have := cat_ok (a := wordT d) (b := [32]) (by simp; omega); simpa using this
        have c12 : evBin .add (.str (wordT d ++ [32])) (.str (kindT d.n)) = some (.str (wordT d ++ [32] ++ kindT d.n)) := by have := cat_ok (a := wordT d ++ [32]) (b := kindT d.n) (by simp; omega); simpa using this
        simp +contextual -implicitDefEqProofs (maxSteps := 1000000) (maxDischargeDepth := 8) only [F_r06_Tell, hix, hd0, nds_get, nds_len, Nd.cells, k1, k2, k34, hs1, hk2, hkt, hwd, c10, c11, c12, zza, argsF, reduceIte, reduceCtorEq, Nat.reduceEqDiff, Nat.reduceBEq, Nat.reduceAdd, Int.reduceLT, Int.reduceLE, Int.reduceEq, Int.reduceToNat, Int.reduceNeg, Nat.reduceLeDiff, Int.reducePow, implies_true, UInt8.reduceToNat, Int.reduceSub, Int.reduceAdd, Nat.reduceLT, Nat.reduceMul, Nat.reduceSub, Nat.reduceBNe]
        subst hL
        generalize hX : exec _ (.loop F_r06_Tell_l0) _ _ = X
        obtain ⟨o, rfl, fr', rfl, g6, gd⟩ := looped hX (tell_loop (l := l) (t := t) (nl := nl) (b5 := nb mem00.next 0) (ty := t_api_Node) (d := d) (s0 := frontT d) (fun x hxk => (hx x hxk).1) hkl ih' (by simp +contextual -implicitDefEqProofs (maxSteps := 1000000) (maxDischargeDepth := 8) only [Nd.cells, hs1, hk2, zza, argsF, reduceIte, reduceCtorEq, Nat.reduceEqDiff, Nat.reduceBEq, Nat.reduceAdd, Int.reduceLT, Int.reduceLE, Int.reduceEq, Int.reduceToNat, Int.reduceNeg, Nat.reduceLeDiff, Int.reducePow, implies_true, UInt8.reduceToNat, Int.reduceSub, Int.reduceAdd, Nat.reduceLT, Nat.reduceMul, Nat.reduceSub, Nat.reduceBNe]) (by rw [List.length_append]; omega) (by simp only [zzf, Nat.reduceBEq ]) (by simp only [zzf, Nat.reduceBEq ]) (by simp only [hf, zzf, Nat.reduceBEq ]) (by simp only [zzf, Nat.reduceBEq ]) (by simp only [zzf, Nat.reduceBEq ]))
        simp +contextual -implicitDefEqProofs (maxSteps := 1000000) (maxDischargeDepth := 8) only [g6, gd, c5, c6, zza, argsF, reduceIte, reduceCtorEq, Nat.reduceEqDiff, Nat.reduceBEq, Nat.reduceAdd, Int.reduceLT, Int.reduceLE, Int.reduceEq, Int.reduceToNat, Int.reduceNeg, Nat.reduceLeDiff, Int.reducePow, implies_true, UInt8.reduceToNat, Int.reduceSub, Int.reduceAdd, Nat.reduceLT, Nat.reduceMul, Nat.reduceSub, Nat.reduceBNe]
        try rfl
      · have hf : frontT d = wordT d := by unfold frontT; simp [hs1, hk2]
        have c10 : evBin .add (.str (wordT d)) (.str ([])) = some (.str (wordT d)) := by have := cat_ok (a := wordT d) (b := []) (by simp; omega); simpa using this
        simp +contextual -implicitDefEqProofs (maxSteps := 1000000) (maxDischargeDepth := 8) only [F_r06_Tell, hix, hd0, nds_get, nds_len, Nd.cells, k1, k2, k34, hs1, hk2, hkt, hwd, c10, zza, argsF, reduceIte, reduceCtorEq, Nat.reduceEqDiff, Nat.reduceBEq, Nat.reduceAdd, Int.reduceLT, Int.reduceLE, Int.reduceEq, Int.reduceToNat, Int.reduceNeg, Nat.reduceLeDiff, Int.reducePow, implies_true, UInt8.reduceToNat, Int.reduceSub, Int.reduceAdd, Nat.reduceLT, Nat.reduceMul, Nat.reduceSub, Nat.reduceBNe]
        subst hL
        generalize hX : exec _ (.loop F_r06_Tell_l0) _ _ = X
        obtain ⟨o, rfl, fr', rfl, g6, gd⟩ := looped hX (tell_loop (l := l) (t := t) (nl := nl) (b5 := nb mem00.next 0) (ty := t_api_Node) (d := d) (s0 := frontT d) (fun x hxk => (hx x hxk).1) hkl ih' (by simp +contextual -implicitDefEqProofs (maxSteps := 1000000) (maxDischargeDepth := 8) only [Nd.cells, hs1, hk2, zza, argsF, reduceIte, reduceCtorEq, Nat.reduceEqDiff, Nat.reduceBEq, Nat.reduceAdd, Int.reduceLT, Int.reduceLE, Int.reduceEq, Int.reduceToNat, Int.reduceNeg, Nat.reduceLeDiff, Int.reducePow, implies_true, UInt8.reduceToNat, Int.reduceSub, Int.reduceAdd, Nat.reduceLT, Nat.reduceMul, Nat.reduceSub, Nat.reduceBNe]) (by rw [List.length_append]; omega) (by simp only [zzf, Nat.reduceBEq ]) (by simp only [zzf, Nat.reduceBEq ]) (by simp only [hf, zzf, Nat.reduceBEq ]) (by simp only [zzf, Nat.reduceBEq ]) (by simp only [zzf, Nat.reduceBEq ]))
        simp +contextual -implicitDefEqProofs (maxSteps := 1000000) (maxDischargeDepth := 8) only [g6, gd, c5, c6, zza, argsF, reduceIte, reduceCtorEq, Nat.reduceEqDiff, Nat.reduceBEq, Nat.reduceAdd, Int.reduceLT, Int.reduceLE, Int.reduceEq, Int.reduceToNat, Int.reduceNeg, Nat.reduceLeDiff, Int.reducePow, implies_true, UInt8.reduceToNat, Int.reduceSub, Int.reduceAdd, Nat.reduceLT, Nat.reduceMul, Nat.reduceSub, Nat.reduceBNe]
        try rfl
    by_cases hw1 : wordT d = []
    · by_cases hk2 : d.kind = 24 ∨ d.kind = 25
      · have hf : frontT d = d.s ++ [32] ++ kindT d.n := by unfold frontT; simp [hs1, hw1, hk2]
        have c10 : evBin .add (.str ([])) (.str (d.s)) = some (.str (d.s)) := by have := cat_ok (a := []) (b := d.s) (by simp; omega); simpa using this
        have c11 : evBin .add (.str (d.s)) (.str ([32])) = some (.str (d.s ++ [32])) := by have := cat_ok (a := d.s) (b := [32]) (by simp; omega); simpa using this
        have c12 : evBin .add (.str (d.s ++ [32])) (.str (kindT d.n)) = some (.str (d.s ++ [32] ++ kindT d.n)) := by have := cat_ok (a := d.s ++ [32]) (b := kindT d.n) (by simp; omega); simpa using this
        simp +contextual -implicitDefEqProofs (maxSteps := 1000000) (maxDischargeDepth := 8) only [F_r06_Tell, hix, hd0, nds_get, nds_len, Nd.cells, k1, k2, k34, hs1, hw1, hk2, hkt, hwd, c10, c11, c12, zza, argsF, reduceIte, reduceCtorEq, Nat.reduceEqDiff, Nat.reduceBEq, Nat.reduceAdd, Int.reduceLT, Int.reduceLE, Int.reduceEq, Int.reduceToNat, Int.reduceNeg, Nat.reduceLeDiff, Int.reducePow, implies_true, UInt8.reduceToNat, Int.reduceSub, Int.reduceAdd, Nat.reduceLT, Nat.reduceMul, Nat.reduceSub, Nat.reduceBNe]
        subst hL
        generalize hX : exec _ (.loop F_r06_Tell_l0) _ _ = X
        obtain ⟨o, rfl, fr', rfl, g6, gd⟩ := looped hX (tell_loop (l := l) (t := t) (nl := nl) (b5 := nb mem00.next 0) (ty := t_api_Node) (d := d) (s0 := frontT d) (fun x hxk => (hx x hxk).1) hkl ih' (by simp +contextual -implicitDefEqProofs (maxSteps := 1000000) (maxDischargeDepth := 8) only [Nd.cells, hs1, hw1, hk2, zza, argsF, reduceIte, reduceCtorEq, Nat.reduceEqDiff, Nat.reduceBEq, Nat.reduceAdd, Int.reduceLT, Int.reduceLE, Int.reduceEq, Int.reduceToNat, Int.reduceNeg, Nat.reduceLeDiff, Int.reducePow, implies_true, UInt8.reduceToNat, Int.reduceSub, Int.reduceAdd, Nat.reduceLT, Nat.reduceMul, Nat.reduceSub, Nat.reduceBNe]) (by rw [List.length_append]; omega) (by simp only [zzf, Nat.reduceBEq ]) (by simp only [zzf, Nat.reduceBEq ]) (by simp only [hf, zzf, Nat.reduceBEq ]) (by simp only [zzf, Nat.reduceBEq ]) (by simp only [zzf, Nat.reduceBEq ]))
        simp +contextual -implicitDefEqProofs (maxSteps := 1000000) (maxDischargeDepth := 8) only [g6, gd, c5, c6, zza, argsF, reduceIte, reduceCtorEq, Nat.reduceEqDiff, Nat.reduceBEq, Nat.reduceAdd, Int.reduceLT, Int.reduceLE, Int.reduceEq, Int.reduceToNat, Int.reduceNeg, Nat.reduceLeDiff, Int.reducePow, implies_true, UInt8.reduceToNat, Int.reduceSub, Int.reduceAdd, Nat.reduceLT, Nat.reduceMul, Nat.reduceSub, Nat.reduceBNe]
        try rfl
      · have hf : frontT d = d.s := by unfold frontT; simp [hs1, hw1, hk2]
        have c10 : evBin .add (.str ([])) (.str (d.s)) = some (.str (d.s)) := by have := cat_ok (a := []) (b := d.s) (by simp; omega); simpa using this
        simp +contextual -implicitDefEqProofs (maxSteps := 1000000) (maxDischargeDepth := 8) only [F_r06_Tell, hix, hd0, nds_get, nds_len, Nd.cells, k1, k2, k34, hs1, hw1, hk2, hkt, hwd, c10, zza, argsF, reduceIte, reduceCtorEq, Nat.reduceEqDiff, Nat.reduceBEq, Nat.reduceAdd, Int.reduceLT, Int.reduceLE, Int.reduceEq, Int.reduceToNat, Int.reduceNeg, Nat.reduceLeDiff, Int.reducePow, implies_true, UInt8.reduceToNat, Int.reduceSub, Int.reduceAdd, Nat.reduceLT, Nat.reduceMul, Nat.reduceSub, Nat.reduceBNe]
        subst hL
        generalize hX : exec _ (.loop F_r06_Tell_l0) _ _ = X
        obtain ⟨o, rfl, fr', rfl, g6, gd⟩ := looped hX (tell_loop (l := l) (t := t) (nl := nl) (b5 := nb mem00.next 0) (ty := t_api_Node) (d := d) (s0 := frontT d) (fun x hxk => (hx x hxk).1) hkl ih' (by simp +contextual -implicitDefEqProofs (maxSteps := 1000000) (maxDischargeDepth := 8) only [Nd.cells, hs1, hw1, hk2, zza, argsF, reduceIte, reduceCtorEq, Nat.reduceEqDiff, Nat.reduceBEq, Nat.reduceAdd, Int.reduceLT, Int.reduceLE, Int.reduceEq, Int.reduceToNat, Int.reduceNeg, Nat.reduceLeDiff, Int.reducePow, implies_true, UInt8.reduceToNat, Int.reduceSub, Int.reduceAdd, Nat.reduceLT, Nat.reduceMul, Nat.reduceSub, Nat.reduceBNe]) (by rw [List.length_append]; omega) (by simp only [zzf, Nat.reduceBEq ]) (by simp only [zzf, Nat.reduceBEq ]) (by simp only [hf, zzf, Nat.reduceBEq ]) (by simp only [zzf, Nat.reduceBEq ]) (by simp only [zzf, Nat.reduceBEq ]))
        simp +contextual -implicitDefEqProofs (maxSteps := 1000000) (maxDischargeDepth := 8) only [g6, gd, c5, c6, zza, argsF, reduceIte, reduceCtorEq, Nat.reduceEqDiff, Nat.reduceBEq, Nat.reduceAdd, Int.reduceLT, Int.reduceLE, Int.reduceEq, Int.reduceToNat, Int.reduceNeg, Nat.reduceLeDiff, Int.reducePow, implies_true, UInt8.reduceToNat, Int.reduceSub, Int.reduceAdd, Nat.reduceLT, Nat.reduceMul, Nat.reduceSub, Nat.reduceBNe]
        try rfl
    · by_cases hk2 : d.kind = 24 ∨ d.kind = 25
      · have hf : frontT d = wordT d ++ [32] ++ d.s ++ [32] ++ kindT d.n := by unfold frontT; simp [hs1, hw1, hk2]
        have c10 : evBin .add (.str (wordT d)) (.str ([32])) = some (.str (wordT d ++ [32])) := by have := cat_ok (a := wordT d) (b := [32]) (by simp; omega); simpa using this
        have c11 : evBin .add (.str (wordT d ++ [32])) (.str (d.s)) = some (.str (wordT d ++ [32] ++ d.s)) := by have := cat_ok (a := wordT d ++ [32]) (b := d.s) (by simp; omega); simpa using this
        have c12 : evBin .add (.str (wordT d ++ [32] ++ d.s)) (.str ([32])) = some (.str (wordT d ++ [32] ++ d.s ++ [32])) := by have := cat_ok (a := wordT d ++ [32] ++ d.s) (b := [32]) (by simp; omega); simpa using this
        have c13 : evBin .add (.str (wordT d ++ [32] ++ d.s ++ [32])) (.str (kindT d.n)) = some (.str (wordT d ++ [32] ++ d.s ++ [32] ++ kindT d.n)) := by have := cat_ok (a := wordT d ++ [32] ++ d.s ++ [32]) (b := kindT d.n) (by simp; omega); simpa using this
        simp +contextual -implicitDefEqProofs (maxSteps := 1000000) (maxDischargeDepth := 8) only [F_r06_Tell, hix, hd0, nds_get, nds_len, Nd.cells, k1, k2, k34, hs1, hw1, hk2, hkt, hwd, c10, c11, c12, c13, zza, argsF, reduceIte, reduceCtorEq, Nat.reduceEqDiff, Nat.reduceBEq, Nat.reduceAdd, Int.reduceLT, Int.reduceLE, Int.reduceEq, Int.reduceToNat, Int.reduceNeg, Nat.reduceLeDiff, Int.reducePow, implies_true, UInt8.reduceToNat, Int.reduceSub, Int.reduceAdd, Nat.reduceLT, Nat.reduceMul, Nat.reduceSub, Nat.reduceBNe]
        subst hL
        generalize hX : exec _ (.loop F_r06_Tell_l0) _ _ = X
        obtain ⟨o, rfl, fr', rfl, g6, gd⟩ := looped hX (tell_loop (l := l) (t := t) (nl := nl) (b5 := nb mem00.next 0) (ty := t_api_Node) (d := d) (s0 := frontT d) (fun x hxk => (hx x hxk).1) hkl ih' (by simp +contextual -implicitDefEqProofs (maxSteps := 1000000) (maxDischargeDepth := 8) only [Nd.cells, hs1, hw1, hk2, zza, argsF, reduceIte, reduceCtorEq, Nat.reduceEqDiff, Nat.reduceBEq, Nat.reduceAdd, Int.reduceLT, Int.reduceLE, Int.reduceEq, Int.reduceToNat, Int.reduceNeg, Nat.reduceLeDiff, Int.reducePow, implies_true, UInt8.reduceToNat, Int.reduceSub, Int.reduceAdd, Nat.reduceLT, Nat.reduceMul, Nat.reduceSub, Nat.reduceBNe]) (by rw [List.length_append]; omega) (by simp only [zzf, Nat.reduceBEq ]) (by simp only [zzf, Nat.reduceBEq ]) (by simp only [hf, zzf, Nat.reduceBEq ]) (by simp only [zzf, Nat.reduceBEq ]) (by simp only [zzf, Nat.reduceBEq ]))
        simp +contextual -implicitDefEqProofs (maxSteps := 1000000) (maxDischargeDepth := 8) only [g6, gd, c5, c6, zza, argsF, reduceIte, reduceCtorEq, Nat.reduceEqDiff, Nat.reduceBEq, Nat.reduceAdd, Int.reduceLT, Int.reduceLE, Int.reduceEq, Int.reduceToNat, Int.reduceNeg, Nat.reduceLeDiff, Int.reducePow, implies_true, UInt8.reduceToNat, Int.reduceSub, Int.reduceAdd, Nat.reduceLT, Nat.reduceMul, Nat.reduceSub, Nat.reduceBNe]
        try rfl
      · have hf : frontT d = wordT d ++ [32] ++ d.s := by unfold frontT; simp [hs1, hw1, hk2]
        have c10 : evBin .add (.str (wordT d)) (.str ([32])) = some (.str (wordT d ++ [32])) := by have := cat_ok (a := wordT d) (b := [32]) (by simp; omega); simpa using this
        have c11 : evBin .add (.str (wordT d ++ [32])) (.str (d.s)) = some (.str (wordT d ++ [32] ++ d.s)) := by have := cat_ok (a := wordT d ++ [32]) (b := d.s) (by simp; omega); simpa using this
        simp +contextual -implicitDefEqProofs (maxSteps := 1000000) (maxDischargeDepth := 8) only [F_r06_Tell, hix, hd0, nds_get, nds_len, Nd.cells, k1, k2, k34, hs1, hw1, hk2, hkt, hwd, c10, c11, zza, argsF, reduceIte, reduceCtorEq, Nat.reduceEqDiff, Nat.reduceBEq, Nat.reduceAdd, Int.reduceLT, Int.reduceLE, Int.reduceEq, Int.reduceToNat, Int.reduceNeg, Nat.reduceLeDiff, Int.reducePow, implies_true, UInt8.reduceToNat, Int.reduceSub, Int.reduceAdd, Nat.reduceLT, Nat.reduceMul, Nat.reduceSub, Nat.reduceBNe]
        subst hL
        generalize hX : exec _ (.loop F_r06_Tell_l0) _ _ = X
        obtain ⟨o, rfl, fr', rfl, g6, gd⟩ := looped hX (tell_loop (l := l) (t := t) (nl := nl) (b5 := nb mem00.next 0) (ty := t_api_Node) (d := d) (s0 := frontT d) (fun x hxk => (hx x hxk).1) hkl ih' (by simp +contextual -implicitDefEqProofs (maxSteps := 1000000) (maxDischargeDepth := 8) only [Nd.cells, hs1, hw1, hk2, zza, argsF, reduceIte, reduceCtorEq, Nat.reduceEqDiff, Nat.reduceBEq, Nat.reduceAdd, Int.reduceLT, Int.reduceLE, Int.reduceEq, Int.reduceToNat, Int.reduceNeg, Nat.reduceLeDiff, Int.reducePow, implies_true, UInt8.reduceToNat, Int.reduceSub, Int.reduceAdd, Nat.reduceLT, Nat.reduceMul, Nat.reduceSub, Nat.reduceBNe]) (by rw [List.length_append]; omega) (by simp only [zzf, Nat.reduceBEq ]) (by simp only [zzf, Nat.reduceBEq ]) (by simp only [hf, zzf, Nat.reduceBEq ]) (by simp only [zzf, Nat.reduceBEq ]) (by simp only [zzf, Nat.reduceBEq ]))
        simp +contextual -implicitDefEqProofs (maxSteps := 1000000) (maxDischargeDepth := 8) only [g6, gd, c5, c6, zza, argsF, reduceIte, reduceCtorEq, Nat.reduceEqDiff, Nat.reduceBEq, Nat.reduceAdd, Int.reduceLT, Int.reduceLE, Int.reduceEq, Int.reduceToNat, Int.reduceNeg, Nat.reduceLeDiff, Int.reducePow, implies_true, UInt8.reduceToNat, Int.reduceSub, Int.reduceAdd, Nat.reduceLT, Nat.reduceMul, Nat.reduceSub, Nat.reduceBNe]
        try rfl
end Go.Proofs.YtblcomejcahkdaaDoor.Ev
end
section
namespace Go.Proofs.YtblcomejcahkdaaDoor.Ev
open Go
structure NdIn (d : Nd) : Prop where
  kids : d.kids.length ≤ 9223372036854775807
  s : d.s.length ≤ 9223372036854775807
  n : -9223372036854775808 ≤ d.n ∧ d.n ≤ 9223372036854775807
  pos : -9223372036854775808 ≤ d.pos ∧ d.pos ≤ 9223372036854775807
theorem wf64 {n : Int} (h : (Lit.int .i64 n).wf = true) : -9223372036854775808 ≤ n ∧ n ≤ 9223372036854775807 := by
  have := wf_i64 h; omega
theorem fz_ints {n : Nat} : ∀ {els : List (List EV)} {ds : List Dt}, Fzs (List.replicate n (.int .i64)) els ds → ∃ ks : List Int, els = ints ks ∧ ks.length = n := by
  induction n with
  | zero => intro els ds h; rw [List.replicate_zero] at h; cases h; exact ⟨[], rfl, rfl⟩
  | succ n ih =>
    intro els ds h
    rw [List.replicate_succ] at h
    cases h with
    | cons h hs =>
      obtain ⟨ks, rfl, hl⟩ := ih hs
      cases h with
      | int hw => exact ⟨_ :: ks, rfl, by simp [hl]⟩
def ndSh (e2 : Nat) : Sh := .struct [.int .i64, .slice e2 1 (.int .i64), .int .i64, .str, .int .i64]
theorem fz_node {e2 : Nat} {el : List EV} {d : Dt} (h : Fz (ndSh e2) el d) : ∃ nd : Nd, el = nd.cells ∧ NdIn nd := by
  cases h with
  | struct h =>
  cases h with | cons h1 h =>
  cases h with | cons h2 h =>
  cases h with | cons h3 h =>
  cases h with | cons h4 h =>
  cases h with | cons h5 h =>
  cases h
  cases h1 with | int w1 =>
  cases h3 with | int w3 =>
  cases h4 with | str w4 =>
  cases h5 with | int w5 =>
  cases h2 with
  | nil => exact ⟨⟨_, [], true, _, _, _⟩, rfl, ⟨by simp, w4, wf64 w3, wf64 w5⟩⟩
  | slice hl hs =>
    obtain ⟨ks, rfl, hk⟩ := fz_ints hs
    exact ⟨⟨_, ks, false, _, _, _⟩, rfl, ⟨by rw [hk]; exact hl, w4, wf64 w3, wf64 w5⟩⟩
theorem fz_nodes {n e2 : Nat} : ∀ {els : List (List EV)} {ds : List Dt}, Fzs (List.replicate n (ndSh e2)) els ds → ∃ l : List Nd, els = nds l ∧ l.length = n ∧ ∀ d ∈ l, NdIn d := by
  induction n with
  | zero => intro els ds h; rw [List.replicate_zero] at h; cases h; exact ⟨[], rfl, rfl, by simp⟩
  | succ n ih =>
    intro els ds h
    rw [List.replicate_succ] at h
    cases h with
    | cons h hs =>
      obtain ⟨l, rfl, hl, hd⟩ := ih hs
      obtain ⟨nd, rfl, hn⟩ := fz_node h
      exact ⟨nd :: l, rfl, by simp [hl], fun d hm => (List.mem_cons.1 hm).elim (fun q => q ▸ hn) (hd d)⟩
theorem fz_rows {e e2 : Nat} {v : EV} {d : Dt} (h : FzV (.slice e 5 (ndSh e2)) v d) : ∃ (nl : Bool) (l : List Nd), v = row nl 0 5 (nds l) ∧ l.length ≤ 9223372036854775807 ∧ ∀ d ∈ l, NdIn d := by
  have h : Fz (.slice e 5 (ndSh e2)) [v] d := h
  cases h with
  | nil => exact ⟨true, [], rfl, by simp, by simp⟩
  | slice hl hs =>
    obtain ⟨l, rfl, hn, hd⟩ := fz_nodes hs
    exact ⟨false, l, rfl, by rw [hn]; exact hl, hd⟩
end Go.Proofs.YtblcomejcahkdaaDoor.Ev
end
section
namespace Go.Proofs.YtblcomejcahkdaaDoor.Ev
open Go
set_option maxRecDepth 20000
set_option maxHeartbeats 8000000
theorem few_loop {l : List Nd} {nl : Bool} {t : Nat} (hl : l.length ≤ 9223372036854775807) {m0 : Mem} {fr : Fr} (h0 : fr.get 0 = row nl t 5 (nds l)) (h3 : fr.get 3 = .int .i64 0) (h4 : fr.get 4 = .int .i64 0) (hd : fr.defers = []) :
    ∃ o, exec U (.loop F_l06_few_l0) fr m0 = some o ∧ ((∃ fr', o = .ret fr' m0 ∧ fr'.get 2 = .bool false ∧ fr'.defers = []) ∨ ((∀ d ∈ l, d.s.length ≤ 40) ∧ ∃ fr' n, o = .exit 0 fr' m0 ∧ fr'.get 0 = row nl t 5 (nds l) ∧ fr'.get 3 = .int .i64 n ∧ fr'.defers = [])) := by
  refine loop_w (σ := Nat) (fun i fr m => m = m0 ∧ i ≤ l.length ∧ (∀ d ∈ l.take i, d.s.length ≤ 40) ∧ fr.get 0 = row nl t 5 (nds l) ∧ (∃ n, fr.get 3 = .int .i64 n) ∧ fr.get 4 = .int .i64 (i : Int) ∧ fr.defers = []) (fun i => l.length - i) _ ?_ 0 fr m0 ⟨rfl, Nat.zero_le _, by simp, h0, ⟨_, h3⟩, h4, hd⟩
  rintro i fr m ⟨rfl, hi, hall, h0, ⟨n, h3⟩, h4, hd⟩
  generalize hX : exec U F_l06_few_l0 fr m = X
  by_cases hlt : i < l.length
  · have hc : (i : Int) < (l.length : Int) := by omega
    have hd0 : l[i]? = some l[i] := List.getElem?_eq_getElem hlt
    have htk : l.take (i + 1) = l.take i ++ [l[i]] := List.take_succ_eq_append_getElem hlt
    have hw1 := wrap_succ (i := i) (by omega)
    have hix : idx l.length (.int .i64 (i : Int)) = some i := idx_cast hlt
    generalize l[i] = d at *
    by_cases h40 : d.s.length ≤ 40
    · have hq : ¬ ((40 : Int) < (d.s.length : Int)) := by omega
      simp +contextual -implicitDefEqProofs (maxSteps := 1000000) (maxDischargeDepth := 8) only [F_l06_few_l0, h0, h3, h4, hd, hc, hd0, hix, hw1, hq, nds_get, nds_len, Nd.cells, ints_len, zza, argsF, reduceIte, reduceCtorEq, Nat.reduceEqDiff, Nat.reduceBEq, Nat.reduceAdd, Int.reduceLT, Int.reduceLE, Int.reduceEq, Int.reduceToNat, Int.reduceNeg, Nat.reduceLeDiff, Int.reducePow, implies_true, UInt8.reduceToNat, Int.reduceSub, Int.reduceAdd, Nat.reduceLT, Nat.reduceMul, Nat.reduceSub, Nat.reduceBNe] at hX
      subst hX
      refine lw_norm (i + 1) (by omega) ⟨rfl, hlt, ?_, by simp only [h0, zzf, Nat.reduceBEq ], ⟨_, by simp only [zzf, Nat.reduceBEq ]; rfl⟩, by simp only [zzf, Nat.reduceBEq ], by simp only [hd, zzf, Nat.reduceBEq ]⟩
      intro e he
      rw [htk, List.mem_append] at he
      rcases he with he | he
      · exact hall e he
      · rw [List.mem_singleton.1 he]; exact h40
    · have hq : (40 : Int) < (d.s.length : Int) := by omega
      simp +contextual -implicitDefEqProofs (maxSteps := 1000000) (maxDischargeDepth := 8) only [F_l06_few_l0, h0, h3, h4, hd, hc, hd0, hix, hw1, hq, nds_get, nds_len, Nd.cells, ints_len, zza, argsF, reduceIte, reduceCtorEq, Nat.reduceEqDiff, Nat.reduceBEq, Nat.reduceAdd, Int.reduceLT, Int.reduceLE, Int.reduceEq, Int.reduceToNat, Int.reduceNeg, Nat.reduceLeDiff, Int.reducePow, implies_true, UInt8.reduceToNat, Int.reduceSub, Int.reduceAdd, Nat.reduceLT, Nat.reduceMul, Nat.reduceSub, Nat.reduceBNe] at hX
      subst hX
      exact lw_ret (.inl ⟨_, rfl, by simp only [zzf, Nat.reduceBEq ], by simp only [hd, zzf, Nat.reduceBEq ]⟩)
  · have hc : ¬ ((i : Int) < (l.length : Int)) := by omega
    rw [List.take_of_length_le (by omega)] at hall
    simp +contextual -implicitDefEqProofs (maxSteps := 1000000) (maxDischargeDepth := 8) only [F_l06_few_l0, h0, h3, h4, hd, hc, nds_len, zza, argsF, reduceIte, reduceCtorEq, Nat.reduceEqDiff, Nat.reduceBEq, Nat.reduceAdd, Int.reduceLT, Int.reduceLE, Int.reduceEq, Int.reduceToNat, Int.reduceNeg, Nat.reduceLeDiff, Int.reducePow, implies_true, UInt8.reduceToNat, Int.reduceSub, Int.reduceAdd, Nat.reduceLT, Nat.reduceMul, Nat.reduceSub, Nat.reduceBNe] at hX
    subst hX
    exact lw_exit (.inr ⟨hall, _, n, rfl, by simp only [h0, zzf, Nat.reduceBEq ], by simp only [h3, zzf, Nat.reduceBEq ], by simp only [hd, zzf, Nat.reduceBEq ]⟩)
theorem few_eq {l : List Nd} {nl : Bool} {t : Nat} (hl : l.length ≤ 9223372036854775807) : ∃ p : Prop, pureR B K n_l06_few [row nl t 5 (nds l)] = some (bo p) ∧ (p → l.length ≤ 60 ∧ ∀ d ∈ l, d.s.length ≤ 40) := by
  rw [pure_at (by simp [F_l06_few])]
  generalize hL : exec (UT B K) (ICode.loop F_l06_few_l0) = L
  generalize hY : frR _ = Y
  simp +contextual -implicitDefEqProofs (maxSteps := 1000000) (maxDischargeDepth := 8) only [F_l06_few, zza, argsF, reduceIte, reduceCtorEq, Nat.reduceEqDiff, Nat.reduceBEq, Nat.reduceAdd, Int.reduceLT, Int.reduceLE, Int.reduceEq, Int.reduceToNat, Int.reduceNeg, Nat.reduceLeDiff, Int.reducePow, implies_true, UInt8.reduceToNat, Int.reduceSub, Int.reduceAdd, Nat.reduceLT, Nat.reduceMul, Nat.reduceSub, Nat.reduceBNe] at hY
  subst hL
  generalize hX : exec _ (.loop F_l06_few_l0) _ _ = X at hY
  obtain ⟨o, rfl, h⟩ := looped hX (few_loop (l := l) (nl := nl) (t := t) hl (by simp only [zzf, Nat.reduceBEq ]) (by simp only [zzf, Nat.reduceBEq ]) (by simp only [zzf, Nat.reduceBEq ]) (by simp only [zzf, Nat.reduceBEq ]))
  rcases h with ⟨fr', rfl, g2, gd⟩ | ⟨h, fr', n, rfl, g0, g3, gd⟩
  · simp +contextual -implicitDefEqProofs (maxSteps := 1000000) (maxDischargeDepth := 8) only [g2, gd, zza, argsF, reduceIte, reduceCtorEq, Nat.reduceEqDiff, Nat.reduceBEq, Nat.reduceAdd, Int.reduceLT, Int.reduceLE, Int.reduceEq, Int.reduceToNat, Int.reduceNeg, Nat.reduceLeDiff, Int.reducePow, implies_true, UInt8.reduceToNat, Int.reduceSub, Int.reduceAdd, Nat.reduceLT, Nat.reduceMul, Nat.reduceSub, Nat.reduceBNe] at hY
    exact ⟨False, by rw [← hY, bo_ff], fun q => q.elim⟩
  · have hc : ((l.length : Int) ≤ 60) = (l.length ≤ 60) := propext (by omega)
    simp +contextual -implicitDefEqProofs (maxSteps := 1000000) (maxDischargeDepth := 8) only [g0, g3, gd, hc, nds_len, zza, argsF, reduceIte, reduceCtorEq, Nat.reduceEqDiff, Nat.reduceBEq, Nat.reduceAdd, Int.reduceLT, Int.reduceLE, Int.reduceEq, Int.reduceToNat, Int.reduceNeg, Nat.reduceLeDiff, Int.reducePow, implies_true, UInt8.reduceToNat, Int.reduceSub, Int.reduceAdd, Nat.reduceLT, Nat.reduceMul, Nat.reduceSub, Nat.reduceBNe] at hY
    exact ⟨_, hY.symm, fun q => ⟨q.1, h⟩⟩
theorem tidy_of {l : List Nd} (hin : ∀ d ∈ l, NdIn d) (h : l.length ≤ 60 ∧ ∀ d ∈ l, d.s.length ≤ 40) : Tidy l :=
  ⟨⟨by omega, fun d hd => (hin d hd).kids, fun d hd => by have := h.2 d hd; omega⟩, by omega, fun d hd => by have := h.2 d hd; omega, fun d hd => (hin d hd).n⟩
theorem tells_loop {l : List Nd} {nl : Bool} {t : Nat} (ht : Tidy l) (hr : rightP l) {m0 : Mem} {fr : Fr} {th : Nat} (h0 : fr.get 0 = row nl t 5 (nds l)) (h3 : fr.get 3 = .fz th 1 (ints (heightsL l))) (h4 : fr.get 4 = .int .i64 0) (hd : fr.defers = []) :
    ∃ o, exec U (.loop F_l06_TreeTells_l0) fr m0 = some o ∧ ∃ fr' m', o = .exit 0 fr' m' ∧ fr'.defers = [] := by
  have hlen := ht.len
  refine loop_w (σ := Nat) (fun i fr m => i ≤ l.length ∧ fr.get 0 = row nl t 5 (nds l) ∧ fr.get 3 = .fz th 1 (ints (heightsL l)) ∧ fr.get 4 = .int .i64 (i : Int) ∧ fr.defers = []) (fun i => l.length - i) _ ?_ 0 fr m0 ⟨Nat.zero_le _, h0, h3, h4, hd⟩
  rintro i fr m ⟨hi, h0, h3, h4, hd⟩
  generalize hX : exec U F_l06_TreeTells_l0 fr m = X
  by_cases hlt : i < l.length
  · have hc : (i : Int) < (l.length : Int) := by omega
    have hw1 := wrap_succ (i := i) (by omega)
    have hix : idx l.length (.int .i64 (i : Int)) = some i := idx_cast hlt
    have hg : (heightsL l)[i]? = some (highN l i : Int) := by unfold heightsL; rw [List.getElem?_map, List.getElem?_range hlt]; rfl
    have hh := fun t => height_eq (l := l) (nl := nl) hr.1.1 (by omega) (fun d hd => by have := kids_of hr.1.1 hr.1.2.1 hd; omega) i hlt t
    simp +contextual -implicitDefEqProofs (maxSteps := 1000000) (maxDischargeDepth := 8) only [F_l06_TreeTells_l0, h0, h3, h4, hd, hc, hix, hw1, hg, hh, ints_get, ints_len, heightsL_len, nds_len, zza, argsF, reduceIte, reduceCtorEq, Nat.reduceEqDiff, Nat.reduceBEq, Nat.reduceAdd, Int.reduceLT, Int.reduceLE, Int.reduceEq, Int.reduceToNat, Int.reduceNeg, Nat.reduceLeDiff, Int.reducePow, implies_true, UInt8.reduceToNat, Int.reduceSub, Int.reduceAdd, Nat.reduceLT, Nat.reduceMul, Nat.reduceSub, Nat.reduceBNe] at hX
    subst hX
    exact lw_norm (i + 1) (by omega) ⟨hlt, by simp only [h0, zzf, Nat.reduceBEq ], by simp only [h3, zzf, Nat.reduceBEq ], by simp only [zzf, Nat.reduceBEq ], by simp only [hd, zzf, Nat.reduceBEq ]⟩
  · have hc : ¬ ((i : Int) < (l.length : Int)) := by omega
    simp +contextual -implicitDefEqProofs (maxSteps := 1000000) (maxDischargeDepth := 8) only [F_l06_TreeTells_l0, h0, h3, h4, hd, hc, nds_len, zza, argsF, reduceIte, reduceCtorEq, Nat.reduceEqDiff, Nat.reduceBEq, Nat.reduceAdd, Int.reduceLT, Int.reduceLE, Int.reduceEq, Int.reduceToNat, Int.reduceNeg, Nat.reduceLeDiff, Int.reducePow, implies_true, UInt8.reduceToNat, Int.reduceSub, Int.reduceAdd, Nat.reduceLT, Nat.reduceMul, Nat.reduceSub, Nat.reduceBNe] at hX
    subst hX
    exact lw_exit ⟨_, _, rfl, by simp only [hd, zzf, Nat.reduceBEq ]⟩
theorem treeTells_law {l : List Nd} {nl : Bool} {t : Nat} (hl : l.length ≤ 9223372036854775807) (hin : ∀ d ∈ l, NdIn d) : pureR B K n_l06_TreeTells [row nl t 5 (nds l)] = some (.bool true) := by
  obtain ⟨p, hp, hpt⟩ := few_eq (nl := nl) (t := 1) hl
  rw [pure_at (by simp [F_l06_TreeTells])]
  generalize hL : exec (UT B K) (ICode.loop F_l06_TreeTells_l0) = L
  by_cases q : p
  · have ht := tidy_of hin (hpt q)
    have hn := fun d hd => (ht.n d hd).2
    have t1 := fun t => tree_right (t := t) (nl := nl) ht.small hn
    have t2 := fun t => tree_whole (t := t) (nl := nl) ht.small hn
    have t3 := fun t => right_eq (t := t) (nl := nl) ht.small
    have t4 := fun t => ref_whole (t := t) (nl := nl) ht.small
    have t5 := fun t => tree_text (t := t) (nl := nl) ht
    by_cases hr : rightP l
    · have t6 := fun t => heights_yes (t := t) (nl := nl) ht.small hn hr
      have hpos := hr.2.1
      have hlen := ht.len
      have hw : IntKind.i64.wrap ((l.length : Int) - 1) = ((l.length - 1 : Nat) : Int) := by rw [wrap_i64 (by omega) (by omega)]; omega
      have t7 := fun t => ref_tell (nl := nl) ht hr (l.length - 1) (by omega) t
      have e5 : treeT l = tellN l (l.length - 1) := if_pos hr
      simp +contextual -implicitDefEqProofs (maxSteps := 1000000) (maxDischargeDepth := 8) only [F_l06_TreeTells, hp, q, t1, t2, t3, t4, t5, t6, t7, e5, hr, hw, heightsL_len, ints_len, nds_len, bo_tt, zza, argsF, reduceIte, reduceCtorEq, Nat.reduceEqDiff, Nat.reduceBEq, Nat.reduceAdd, Int.reduceLT, Int.reduceLE, Int.reduceEq, Int.reduceToNat, Int.reduceNeg, Nat.reduceLeDiff, Int.reducePow, implies_true, UInt8.reduceToNat, Int.reduceSub, Int.reduceAdd, Nat.reduceLT, Nat.reduceMul, Nat.reduceSub, Nat.reduceBNe]
      subst hL
      generalize hX : exec _ (.loop F_l06_TreeTells_l0) _ _ = X
      obtain ⟨o, rfl, fr', m', rfl, gd⟩ := looped hX (tells_loop (l := l) (nl := nl) (t := t) (th := 0) ht hr (by simp only [zzf, Nat.reduceBEq ]) (by simp only [zzf, Nat.reduceBEq ]) (by simp only [zzf, Nat.reduceBEq ]) (by simp only [zzf, Nat.reduceBEq ]))
      simp +contextual -implicitDefEqProofs (maxSteps := 1000000) (maxDischargeDepth := 8) only [gd, run_works8, zza, argsF, reduceIte, reduceCtorEq, Nat.reduceEqDiff, Nat.reduceBEq, Nat.reduceAdd, Int.reduceLT, Int.reduceLE, Int.reduceEq, Int.reduceToNat, Int.reduceNeg, Nat.reduceLeDiff, Int.reducePow, implies_true, UInt8.reduceToNat, Int.reduceSub, Int.reduceAdd, Nat.reduceLT, Nat.reduceMul, Nat.reduceSub, Nat.reduceBNe]
    · have t6 := fun t => heights_no (t := t) (nl := nl) ht.small hn hr
      have e5 : treeT l = [] := if_neg hr
      have ew : ¬ wholeP l := fun q => hr q.1
      simp +contextual -implicitDefEqProofs (maxSteps := 1000000) (maxDischargeDepth := 8) only [F_l06_TreeTells, hp, q, t1, t2, t3, t4, t5, t6, e5, hr, ew, run_works8, bo_ff, bo_tt, zza, argsF, reduceIte, reduceCtorEq, Nat.reduceEqDiff, Nat.reduceBEq, Nat.reduceAdd, Int.reduceLT, Int.reduceLE, Int.reduceEq, Int.reduceToNat, Int.reduceNeg, Nat.reduceLeDiff, Int.reducePow, implies_true, UInt8.reduceToNat, Int.reduceSub, Int.reduceAdd, Nat.reduceLT, Nat.reduceMul, Nat.reduceSub, Nat.reduceBNe]
  · simp +contextual -implicitDefEqProofs (maxSteps := 1000000) (maxDischargeDepth := 8) only [F_l06_TreeTells, hp, q, run_works8, bo_ff, zza, argsF, reduceIte, reduceCtorEq, Nat.reduceEqDiff, Nat.reduceBEq, Nat.reduceAdd, Int.reduceLT, Int.reduceLE, Int.reduceEq, Int.reduceToNat, Int.reduceNeg, Nat.reduceLeDiff, Int.reducePow, implies_true, UInt8.reduceToNat, Int.reduceSub, Int.reduceAdd, Nat.reduceLT, Nat.reduceMul, Nat.reduceSub, Nat.reduceBNe]
theorem treeTells_run {m : Mem} {e e2 : Nat} {es : List EV} {ds : List Dt} (hm : Stands m) (hg : GlobOk (still m)) (h : RepVs m [.slice e 5 (.struct [.int .i64, .slice e2 1 (.int .i64), .int .i64, .str, .int .i64])] es ds) : ∃ m', run T n_l06_TreeTells es m = some (.ret (.bool true) m') := by
  obtain ⟨us, hu, hl⟩ := law_pure entB (f := n_l06_TreeTells) (F := F_l06_TreeTells) (HasF.has (T := B)) hm h rfl hg
  obtain ⟨e, d, es', ds', rfl, _, h1, hu⟩ := hu.one
  obtain rfl := hu.none
  obtain ⟨nl, l, rfl, hn, hin⟩ := fz_rows h1
  simp only [tagArgs_cons, tagArgs_nil, tagV_row] at hl
  exact hl (treeTells_law hn hin)
end Go.Proofs.YtblcomejcahkdaaDoor.Ev
end
