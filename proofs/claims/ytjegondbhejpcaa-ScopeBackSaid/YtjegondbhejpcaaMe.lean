/- EvLoop, PSc, EvF0, EvF1, EvExt, EvT, EvUp, EvU, WSc1, WSc2, WSc3, WSc4, WSc5, WSc6, WSc7. -/
import Derived.KernelRfl
import Derived.Test.YtjegondbhejpcaaChecked
import Derived.Laws.Externs
import Derived.Lib.Bytealg
import Derived.Test.YtjegondbhejpcaaMd
section
namespace Go.Proofs.Ytjegondbhejpcaa.Ev
open Go
set_option linter.unusedSimpArgs false
def LoopW {σ : Type} (I : σ → Fr → Mem → Prop) (lt : σ → Prop) (Q : Out → Prop) (o : Option Out) : Prop := match o with
  | some (.norm fr m) => ∃ s, lt s ∧ I s fr m
  | some o => Q o
  | none => False
theorem loop_w {T : Nat → Option Ent} {c : ICode} {σ : Type} (I : σ → Fr → Mem → Prop) (μ : σ → Nat) (Q : Out → Prop) (h : ∀ s fr m, I s fr m → LoopW I (fun s' => μ s' < μ s) Q (exec T c fr m)) : ∀ s fr m, I s fr m → ∃ o, exec T (.loop c) fr m = some o ∧ Q o := by
  intro s
  generalize hn : μ s = n
  induction n using Nat.strongRecOn generalizing s with
  | _ n ih =>
    intro fr m hI
    have hw := h s fr m hI
    rw [exec_loop]
    cases he : exec T c fr m with
    | none => rw [he] at hw; exact hw.elim
    | some o =>
      rw [he] at hw
      cases o with
      | norm fr1 m1 => obtain ⟨s1, h1, h2⟩ := hw; exact ih (μ s1) (by omega) s1 rfl fr1 m1 h2
      | exit id fr1 m1 => exact ⟨_, rfl, hw⟩
      | ret fr1 m1 => exact ⟨_, rfl, hw⟩
      | pan v fr1 m1 => exact ⟨_, rfl, hw⟩
section
variable {σ : Type} {I : σ → Fr → Mem → Prop} {lt : σ → Prop} {Q : Out → Prop}
theorem lw_norm {fr : Fr} {m : Mem} (s : σ) (h : lt s) (hI : I s fr m) : LoopW I lt Q (some (.norm fr m)) := ⟨s, h, hI⟩
theorem lw_exit {id : Nat} {fr : Fr} {m : Mem} (h : Q (.exit id fr m)) : LoopW I lt Q (some (.exit id fr m)) := h
end
/-- A loop that stands under a name, and how it ends. -/
theorem looped {T : Nat → Option Ent} {c : ICode} {fr : Fr} {m : Mem} {X : Option Out} (hX : exec T (.loop c) fr m = X) {Q : Out → Prop} (h : ∃ o, exec T (.loop c) fr m = some o ∧ Q o) : ∃ o, X = some o ∧ Q o := by
  rw [hX] at h; exact h
/-- A row that is put down, of any length. -/
def bsF (e esz len : Nat) (o : Option (List EV)) (m : Mem) : Option R1 := match o with
  | some cs => some (.val (.slice (nb m.next 0) 0 len (some len)) (ext m [.cells cs esz e false]))
  | none => none
@[congr] theorem bsF_congr {e esz len : Nat} {o o' : Option (List EV)} {m : Mem} (h : o = o') : bsF e esz len o m = bsF e esz len o' m := by rw [h]
/-- A function that calls none, of given arguments. -/
def bodyV (call : Call) (n : Nat) (F : IFun) (asx : List EV) : Option EV := match evBody call n F asx mem00 with
  | some (.ret v m) => frzV m v
  | _ => none
end Go.Proofs.Ytjegondbhejpcaa.Ev
namespace Go.Proofs.Ytjegondbhejpcaa.Ev
open Go
/-- A slice of one's own, asx a row. -/
theorem Own.frz {m : Mem} {v : EV} {els : List (List EV)} {n e lo : Nat} (h : Own m v els.flatten n e lo) (hn : els.length = n) (hl : ∀ el ∈ els, el.length = e) (hp : ∀ el ∈ els, plains el = true) : ∃ nl, frzV m v = some (row nl 0 e els) := by
  rcases h.is with ⟨rfl, rfl, h3⟩ | ⟨b, cap, t, rfl, h1, h2, h3, h4⟩
  · have : els = [] := List.eq_nil_of_length_eq_zero hn
    subst this
    exact ⟨true, rfl⟩
  · subst hn
    refine ⟨false, ?_⟩
    rw [frzV_block h3 hl hp (by rcases h4 with rfl | rfl <;> simp [capOk])]
    simp [row]
end Go.Proofs.Ytjegondbhejpcaa.Ev
namespace Go.Proofs.Ytjegondbhejpcaa.Ev
end Go.Proofs.Ytjegondbhejpcaa.Ev
namespace Go.Proofs.Ytjegondbhejpcaa.Ev
/-- Laws of reckoning, all in one. -/
theorem zz0 : type_of% (And.intro (@fr00_get) <| And.intro (@fr00_defers) <| And.intro (@put_some) <| And.intro (@put_none) <| And.intro (@set_defers) <| And.intro (@eval_tmp) <| And.intro (@eval_const) <| And.intro (@ofEV_some) <| And.intro (@ofEM_some) <| And.intro (@ofM_some) <| And.intro (@thenV_some) <| And.intro (@thenC_ret) <| And.intro (@thenE_norm) <| And.intro (@thenE_ret) <| And.intro (@thenE_exit) <| And.intro (@leave_norm) <| And.intro (@leave_ret) <| And.intro (@leave_exit) <| And.intro (@selO_t) <| And.intro (@selO_f) <| And.intro (@resR_ret) <| And.intro (@resR_norm) <| And.intro (@resR_pan) <| And.intro (@eq_self.{1}) <| And.intro (@res_nil) <| And.intro (@res_tmp) <| And.intro (@one_one) <| And.intro (@one_two) <| And.intro (@one_nil) <| And.intro (@bin_add) <| And.intro (@bin_sub) <| And.intro (@bin_mul) <| And.intro (@bin_quo) <| And.intro (@bin_rem) <| And.intro (@bin_and) <| And.intro (@bin_or) <| And.intro (@bin_xor) <| And.intro (@bin_andNot) <| And.intro (@bin_lss) <| And.intro (@bin_leq) <| And.intro (@bin_gtr) <| And.intro (@bin_geq) <| And.intro (@bin_shl_i64) <| And.intro (@bin_shr_i64) <| And.intro (@bin_shl_u64) <| And.intro (@bin_shr_u64) <| And.intro (@eq_int) <| And.intro (@un_neg) <| And.intro (@cv_int) <| (@exec_seq)) :=
  And.intro (@fr00_get) <| And.intro (@fr00_defers) <| And.intro (@put_some) <| And.intro (@put_none) <| And.intro (@set_defers) <| And.intro (@eval_tmp) <| And.intro (@eval_const) <| And.intro (@ofEV_some) <| And.intro (@ofEM_some) <| And.intro (@ofM_some) <| And.intro (@thenV_some) <| And.intro (@thenC_ret) <| And.intro (@thenE_norm) <| And.intro (@thenE_ret) <| And.intro (@thenE_exit) <| And.intro (@leave_norm) <| And.intro (@leave_ret) <| And.intro (@leave_exit) <| And.intro (@selO_t) <| And.intro (@selO_f) <| And.intro (@resR_ret) <| And.intro (@resR_norm) <| And.intro (@resR_pan) <| And.intro (@eq_self.{1}) <| And.intro (@res_nil) <| And.intro (@res_tmp) <| And.intro (@one_one) <| And.intro (@one_two) <| And.intro (@one_nil) <| And.intro (@bin_add) <| And.intro (@bin_sub) <| And.intro (@bin_mul) <| And.intro (@bin_quo) <| And.intro (@bin_rem) <| And.intro (@bin_and) <| And.intro (@bin_or) <| And.intro (@bin_xor) <| And.intro (@bin_andNot) <| And.intro (@bin_lss) <| And.intro (@bin_leq) <| And.intro (@bin_gtr) <| And.intro (@bin_geq) <| And.intro (@bin_shl_i64) <| And.intro (@bin_shr_i64) <| And.intro (@bin_shl_u64) <| And.intro (@bin_shr_u64) <| And.intro (@eq_int) <| And.intro (@un_neg) <| And.intro (@cv_int) <| (@exec_seq)
/-- Laws of reckoning, all in one. -/
theorem zz1 : type_of% (And.intro (@exec_region) <| And.intro (@exec_skip) <| And.intro (@exec_ret) <| And.intro (@exec_exit) <| And.intro (@exec_block) <| And.intro (@exec_cond') <| And.intro (@oprs_nil) <| And.intro (@oprs_val) <| And.intro (@oprs_callv) <| And.intro (@Option.map_some.{0,0}) <| And.intro (@Option.map_none.{0,0}) <| And.intro (@List.map_cons.{0,0}) <| And.intro (@List.map_nil.{0,0}) <| And.intro (@bo_decide) <| And.intro (@bo_not_decide) <| And.intro (@bo_tt) <| And.intro (@bo_ff) <| And.intro (@gv_true) <| And.intro (@gv_false) <| And.intro (@cE_bo) <| And.intro (@thenG_val) <| And.intro (@thenH_ret) <| And.intro (@gV_undef) <| And.intro (@gV_bo_t) <| And.intro (@gV_bo_f) <| And.intro (@gV_gv_t) <| And.intro (@gV_gv_f) <| And.intro (@gC_undef) <| And.intro (@gC_bo_t) <| And.intro (@gC_bo_f) <| And.intro (@gC_gv_t) <| And.intro (@gC_gv_f) <| And.intro (@oprs_gval) <| And.intro (@oprs_gcallv) <| And.intro (@runV_func) <| And.intro (@List.nil_append.{0}) <| And.intro (@List.append_nil.{0}) <| And.intro (@List.cons_append.{0}) <| And.intro (@evOp_pick') <| And.intro (@pick_and) <| And.intro (@pick_or) <| And.intro (@pick_and0) <| And.intro (@pick_or0) <| And.intro (@pick_t) <| And.intro (@pick_f) <| And.intro (@un_not_bo) <| And.intro (@eq_boo) <| And.intro (@eq_str) <| And.intro (@thenE_iF) <| (@leave_iF)) :=
  And.intro (@exec_region) <| And.intro (@exec_skip) <| And.intro (@exec_ret) <| And.intro (@exec_exit) <| And.intro (@exec_block) <| And.intro (@exec_cond') <| And.intro (@oprs_nil) <| And.intro (@oprs_val) <| And.intro (@oprs_callv) <| And.intro (@Option.map_some.{0,0}) <| And.intro (@Option.map_none.{0,0}) <| And.intro (@List.map_cons.{0,0}) <| And.intro (@List.map_nil.{0,0}) <| And.intro (@bo_decide) <| And.intro (@bo_not_decide) <| And.intro (@bo_tt) <| And.intro (@bo_ff) <| And.intro (@gv_true) <| And.intro (@gv_false) <| And.intro (@cE_bo) <| And.intro (@thenG_val) <| And.intro (@thenH_ret) <| And.intro (@gV_undef) <| And.intro (@gV_bo_t) <| And.intro (@gV_bo_f) <| And.intro (@gV_gv_t) <| And.intro (@gV_gv_f) <| And.intro (@gC_undef) <| And.intro (@gC_bo_t) <| And.intro (@gC_bo_f) <| And.intro (@gC_gv_t) <| And.intro (@gC_gv_f) <| And.intro (@oprs_gval) <| And.intro (@oprs_gcallv) <| And.intro (@runV_func) <| And.intro (@List.nil_append.{0}) <| And.intro (@List.append_nil.{0}) <| And.intro (@List.cons_append.{0}) <| And.intro (@evOp_pick') <| And.intro (@pick_and) <| And.intro (@pick_or) <| And.intro (@pick_and0) <| And.intro (@pick_or0) <| And.intro (@pick_t) <| And.intro (@pick_f) <| And.intro (@un_not_bo) <| And.intro (@eq_boo) <| And.intro (@eq_str) <| And.intro (@thenE_iF) <| (@leave_iF)
/-- Laws of reckoning, all in one. -/
theorem zz2 : type_of% (And.intro (@thenV_iF) <| And.intro (@thenC_iF) <| And.intro (@resR_iF) <| And.intro (@not_true_eq_false) <| And.intro (@not_false_eq_true) <| And.intro (@and_true) <| And.intro (@true_and) <| And.intro (@and_false) <| And.intro (@false_and) <| And.intro (@or_true) <| And.intro (@true_or) <| And.intro (@or_false) <| And.intro (@false_or) <| And.intro (@Classical.not_not) <| And.intro (@Bool.false_bne) <| And.intro (@Bool.true_bne) <| And.intro (@Bool.false_xor) <| And.intro (@Bool.true_xor) <| And.intro (@evOp_mov) <| And.intro (@evOp_build) <| And.intro (@evOp_load) <| And.intro (@evOp_store) <| And.intro (@evOp_nilck) <| And.intro (@evOp_bin) <| And.intro (@evOp_eq) <| And.intro (@evOp_un) <| And.intro (@evOp_conv) <| And.intro (@evOp_iface) <| And.intro (@evOp_mkfn) <| And.intro (@evOp_mkslice) <| And.intro (@evOp_slstr) <| And.intro (@evOp_slarr) <| And.intro (@evOp_faddr) <| And.intro (@evOp_fld) <| And.intro (@evOp_iaddrArr) <| And.intro (@evOp_idxstr) <| And.intro (@evOp_idxagg) <| And.intro (@evOp_lookup) <| And.intro (@evOp_mapupd) <| And.intro (@evOp_delete) <| And.intro (@evOp_lenmap) <| And.intro (@evOp_tassert) <| And.intro (@evOp_extract) <| And.intro (@evOp_lenstr) <| And.intro (@evOp_lenarr) <| And.intro (@evOp_cap) <| And.intro (@evOp_max) <| And.intro (@evOp_min) <| And.intro (@evOp_append) <| (@evOp_copy)) :=
  And.intro (@thenV_iF) <| And.intro (@thenC_iF) <| And.intro (@resR_iF) <| And.intro (@not_true_eq_false) <| And.intro (@not_false_eq_true) <| And.intro (@and_true) <| And.intro (@true_and) <| And.intro (@and_false) <| And.intro (@false_and) <| And.intro (@or_true) <| And.intro (@true_or) <| And.intro (@or_false) <| And.intro (@false_or) <| And.intro (@Classical.not_not) <| And.intro (@Bool.false_bne) <| And.intro (@Bool.true_bne) <| And.intro (@Bool.false_xor) <| And.intro (@Bool.true_xor) <| And.intro (@evOp_mov) <| And.intro (@evOp_build) <| And.intro (@evOp_load) <| And.intro (@evOp_store) <| And.intro (@evOp_nilck) <| And.intro (@evOp_bin) <| And.intro (@evOp_eq) <| And.intro (@evOp_un) <| And.intro (@evOp_conv) <| And.intro (@evOp_iface) <| And.intro (@evOp_mkfn) <| And.intro (@evOp_mkslice) <| And.intro (@evOp_slstr) <| And.intro (@evOp_slarr) <| And.intro (@evOp_faddr) <| And.intro (@evOp_fld) <| And.intro (@evOp_iaddrArr) <| And.intro (@evOp_idxstr) <| And.intro (@evOp_idxagg) <| And.intro (@evOp_lookup) <| And.intro (@evOp_mapupd) <| And.intro (@evOp_delete) <| And.intro (@evOp_lenmap) <| And.intro (@evOp_tassert) <| And.intro (@evOp_extract) <| And.intro (@evOp_lenstr) <| And.intro (@evOp_lenarr) <| And.intro (@evOp_cap) <| And.intro (@evOp_max) <| And.intro (@evOp_min) <| And.intro (@evOp_append) <| (@evOp_copy)
/-- Laws of reckoning, all in one. -/
theorem zz3 : type_of% (And.intro (@cE_t) <| And.intro (@cE_f) <| And.intro (@gV_tt) <| And.intro (@gV_tf) <| And.intro (@gV_ft) <| And.intro (@gV_ff) <| And.intro (@gV_gt_t) <| And.intro (@gV_gt_f) <| And.intro (@gV_gf_t) <| And.intro (@gV_gf_f) <| And.intro (@gC_tt) <| And.intro (@gC_tf) <| And.intro (@gC_ft) <| And.intro (@gC_ff) <| And.intro (@gC_gt_t) <| And.intro (@gC_gt_f) <| And.intro (@gC_gf_t) <| And.intro (@gC_gf_f) <| And.intro (@pick_and_t) <| And.intro (@pick_and_f) <| And.intro (@pick_or_t) <| And.intro (@pick_or_f) <| And.intro (@eq_bo_t) <| And.intro (@eq_bo_f) <| And.intro (@eq_t_bo) <| And.intro (@eq_f_bo) <| And.intro (@eq_tt) <| And.intro (@eq_ff) <| And.intro (@eq_tf) <| And.intro (@eq_ft) <| And.intro (@un_not_t) <| And.intro (@un_not_f) <| And.intro (@selE_t) <| And.intro (@selE_f) <| And.intro (@get_set') <| And.intro (@decide_true) <| And.intro (@decide_false) <| And.intro (@Bool.not_true) <| And.intro (@Bool.not_false) <| And.intro (@cond_true.{1}) <| And.intro (@cond_false.{1}) <| And.intro (@Int.cast_ofNat_Int) <| And.intro (@new_eq) <| And.intro (@ext_ext) <| And.intro (@nb_nb) <| And.intro (@next_ext) <| And.intro (@next_set) <| And.intro (@get_set_eq) <| And.intro (@get_set_ne) <| (@get_ext_old)) :=
  And.intro (@cE_t) <| And.intro (@cE_f) <| And.intro (@gV_tt) <| And.intro (@gV_tf) <| And.intro (@gV_ft) <| And.intro (@gV_ff) <| And.intro (@gV_gt_t) <| And.intro (@gV_gt_f) <| And.intro (@gV_gf_t) <| And.intro (@gV_gf_f) <| And.intro (@gC_tt) <| And.intro (@gC_tf) <| And.intro (@gC_ft) <| And.intro (@gC_ff) <| And.intro (@gC_gt_t) <| And.intro (@gC_gt_f) <| And.intro (@gC_gf_t) <| And.intro (@gC_gf_f) <| And.intro (@pick_and_t) <| And.intro (@pick_and_f) <| And.intro (@pick_or_t) <| And.intro (@pick_or_f) <| And.intro (@eq_bo_t) <| And.intro (@eq_bo_f) <| And.intro (@eq_t_bo) <| And.intro (@eq_f_bo) <| And.intro (@eq_tt) <| And.intro (@eq_ff) <| And.intro (@eq_tf) <| And.intro (@eq_ft) <| And.intro (@un_not_t) <| And.intro (@un_not_f) <| And.intro (@selE_t) <| And.intro (@selE_f) <| And.intro (@get_set') <| And.intro (@decide_true) <| And.intro (@decide_false) <| And.intro (@Bool.not_true) <| And.intro (@Bool.not_false) <| And.intro (@cond_true.{1}) <| And.intro (@cond_false.{1}) <| And.intro (@Int.cast_ofNat_Int) <| And.intro (@new_eq) <| And.intro (@ext_ext) <| And.intro (@nb_nb) <| And.intro (@next_ext) <| And.intro (@next_set) <| And.intro (@get_set_eq) <| And.intro (@get_set_ne) <| (@get_ext_old)
/-- Laws of reckoning, all in one. -/
theorem zz4 : type_of% (And.intro (@get_ext_nb) <| And.intro (@get_ext_nb') <| And.intro (@load_ptr') <| And.intro (@ldB_cells) <| And.intro (@part_none) <| And.intro (@part_some) <| And.intro (@store_ptr') <| And.intro (@stB_some) <| And.intro (@write_eq) <| And.intro (@wrB_cells) <| And.intro (@set_ext_nb) <| And.intro (@set_ext_nb') <| And.intro (@set_ext_old) <| And.intro (@cells_int) <| And.intro (@cells_bool) <| And.intro (@cells_bo) <| And.intro (@cells_str) <| And.intro (@cells_nilptr) <| And.intro (@cells_ptr) <| And.intro (@cells_nilslice) <| And.intro (@cells_slice) <| And.intro (@cells_nilmap) <| And.intro (@cells_map) <| And.intro (@cells_nilfunc) <| And.intro (@cells_func) <| And.intro (@cells_niliface) <| And.intro (@cells_iface) <| And.intro (@cells_agg) <| And.intro (@fill_nil) <| And.intro (@fill_cons) <| And.intro (@fillB_some) <| And.intro (@evOp_box') <| And.intro (@boxE_some) <| And.intro (@evOp_alloc') <| And.intro (@evOp_mkmap') <| And.intro (@get_bump) <| And.intro (@next_bump) <| And.intro (@set_bump) <| And.intro (@load_bump) <| And.intro (@nb_lt) <| And.intro (@nb_inj) <| And.intro (@lt_nb) <| And.intro (@eq_agg) <| And.intro (@eqs_nil) <| And.intro (@eqs_cons) <| And.intro (@eqsE_some) <| And.intro (@andO_true) <| And.intro (@andO_false) <| And.intro (@andO_t) <| (@andO_f)) :=
  And.intro (@get_ext_nb) <| And.intro (@get_ext_nb') <| And.intro (@load_ptr') <| And.intro (@ldB_cells) <| And.intro (@part_none) <| And.intro (@part_some) <| And.intro (@store_ptr') <| And.intro (@stB_some) <| And.intro (@write_eq) <| And.intro (@wrB_cells) <| And.intro (@set_ext_nb) <| And.intro (@set_ext_nb') <| And.intro (@set_ext_old) <| And.intro (@cells_int) <| And.intro (@cells_bool) <| And.intro (@cells_bo) <| And.intro (@cells_str) <| And.intro (@cells_nilptr) <| And.intro (@cells_ptr) <| And.intro (@cells_nilslice) <| And.intro (@cells_slice) <| And.intro (@cells_nilmap) <| And.intro (@cells_map) <| And.intro (@cells_nilfunc) <| And.intro (@cells_func) <| And.intro (@cells_niliface) <| And.intro (@cells_iface) <| And.intro (@cells_agg) <| And.intro (@fill_nil) <| And.intro (@fill_cons) <| And.intro (@fillB_some) <| And.intro (@evOp_box') <| And.intro (@boxE_some) <| And.intro (@evOp_alloc') <| And.intro (@evOp_mkmap') <| And.intro (@get_bump) <| And.intro (@next_bump) <| And.intro (@set_bump) <| And.intro (@load_bump) <| And.intro (@nb_lt) <| And.intro (@nb_inj) <| And.intro (@lt_nb) <| And.intro (@eq_agg) <| And.intro (@eqs_nil) <| And.intro (@eqs_cons) <| And.intro (@eqsE_some) <| And.intro (@andO_true) <| And.intro (@andO_false) <| And.intro (@andO_t) <| (@andO_f)
/-- Laws of reckoning, all in one. -/
theorem zz5 : type_of% (And.intro (@andO_dec) <| And.intro (@res_cell) <| And.intro (@rcE_some) <| And.intro (@List.length_cons.{0}) <| And.intro (@List.length_nil.{0}) <| And.intro (@Nat.zero_add) <| And.intro (@Nat.add_zero) <| And.intro (@List.take_succ_cons.{0}) <| And.intro (@List.take_zero.{0}) <| And.intro (@List.take_nil.{0}) <| And.intro (@List.drop_succ_cons.{0}) <| And.intro (@List.drop_zero.{0}) <| And.intro (@List.drop_nil.{0}) <| And.intro (@List.getElem?_cons_zero.{0}) <| And.intro (@List.getElem?_cons_succ.{0}) <| And.intro (@List.getElem?_nil.{0}) <| And.intro (@Option.getD_some.{0}) <| And.intro (@List.set_cons_zero.{0}) <| And.intro (@List.set_cons_succ.{0}) <| And.intro (@Nat.le_refl) <| And.intro (@ne_eq.{1}) <| And.intro (@Bool.or_true) <| And.intro (@Bool.or_false) <| And.intro (@Bool.true_or) <| And.intro (@Bool.false_or) <| And.intro (@Bool.and_true) <| And.intro (@Bool.true_and) <| And.intro (@Bool.and_false) <| And.intro (@Bool.false_and) <| And.intro (@eq_pn) <| And.intro (@eq_np) <| And.intro (@eq_nn) <| And.intro (@eq_sn) <| And.intro (@eq_ns) <| And.intro (@eq_nsns) <| And.intro (@evOp_bslice1) <| And.intro (@evOp_bslice0) <| (@bsE_some)) :=
  And.intro (@andO_dec) <| And.intro (@res_cell) <| And.intro (@rcE_some) <| And.intro (@List.length_cons.{0}) <| And.intro (@List.length_nil.{0}) <| And.intro (@Nat.zero_add) <| And.intro (@Nat.add_zero) <| And.intro (@List.take_succ_cons.{0}) <| And.intro (@List.take_zero.{0}) <| And.intro (@List.take_nil.{0}) <| And.intro (@List.drop_succ_cons.{0}) <| And.intro (@List.drop_zero.{0}) <| And.intro (@List.drop_nil.{0}) <| And.intro (@List.getElem?_cons_zero.{0}) <| And.intro (@List.getElem?_cons_succ.{0}) <| And.intro (@List.getElem?_nil.{0}) <| And.intro (@Option.getD_some.{0}) <| And.intro (@List.set_cons_zero.{0}) <| And.intro (@List.set_cons_succ.{0}) <| And.intro (@Nat.le_refl) <| And.intro (@ne_eq.{1}) <| And.intro (@Bool.or_true) <| And.intro (@Bool.or_false) <| And.intro (@Bool.true_or) <| And.intro (@Bool.false_or) <| And.intro (@Bool.and_true) <| And.intro (@Bool.true_and) <| And.intro (@Bool.and_false) <| And.intro (@Bool.false_and) <| And.intro (@eq_pn) <| And.intro (@eq_np) <| And.intro (@eq_nn) <| And.intro (@eq_sn) <| And.intro (@eq_ns) <| And.intro (@eq_nsns) <| And.intro (@evOp_bslice1) <| And.intro (@evOp_bslice0) <| (@bsE_some)
/-- Laws of reckoning, all in one. -/
theorem zz6 : type_of% (And.intro (@srt_mov) <| And.intro (@srt_alloc) <| And.intro (@srt_box) <| And.intro (@srt_build) <| And.intro (@srt_bslice) <| And.intro (@srt_store) <| And.intro (@srt_nilck) <| And.intro (@srt_bin) <| And.intro (@srt_eq) <| And.intro (@srt_un) <| And.intro (@srt_iface) <| And.intro (@srt_mkfn) <| And.intro (@srt_mkmap) <| And.intro (@srt_mkslice) <| And.intro (@srt_slstr) <| And.intro (@srt_slsl) <| And.intro (@srt_slarr) <| And.intro (@srt_faddr) <| And.intro (@srt_fld) <| And.intro (@srt_iaddr) <| And.intro (@srt_iaddrArr) <| And.intro (@srt_idxstr) <| And.intro (@srt_idxagg) <| And.intro (@srt_lookup) <| And.intro (@srt_mapupd) <| And.intro (@srt_delete) <| And.intro (@srt_lenmap) <| And.intro (@srt_tassert) <| And.intro (@srt_extract) <| And.intro (@srt_len) <| And.intro (@srt_lenstr) <| And.intro (@srt_lenarr) <| And.intro (@srt_cap) <| And.intro (@srt_max) <| And.intro (@srt_min) <| And.intro (@srt_append) <| And.intro (@srt_copy) <| And.intro (@srt_pick) <| And.intro (@srt_cv_int) <| And.intro (@srt_cv_same) <| And.intro (@srt_cv_bytes) <| And.intro (@srt_cv_text) <| And.intro (@exec_draw') <| And.intro (@drw_nil) <| And.intro (@thenL_some) <| And.intro (@ifB_true) <| And.intro (@drw_v0) <| And.intro (@drw_v1) <| And.intro (@thenD_ret) <| (@chk_nil)) :=
  And.intro (@srt_mov) <| And.intro (@srt_alloc) <| And.intro (@srt_box) <| And.intro (@srt_build) <| And.intro (@srt_bslice) <| And.intro (@srt_store) <| And.intro (@srt_nilck) <| And.intro (@srt_bin) <| And.intro (@srt_eq) <| And.intro (@srt_un) <| And.intro (@srt_iface) <| And.intro (@srt_mkfn) <| And.intro (@srt_mkmap) <| And.intro (@srt_mkslice) <| And.intro (@srt_slstr) <| And.intro (@srt_slsl) <| And.intro (@srt_slarr) <| And.intro (@srt_faddr) <| And.intro (@srt_fld) <| And.intro (@srt_iaddr) <| And.intro (@srt_iaddrArr) <| And.intro (@srt_idxstr) <| And.intro (@srt_idxagg) <| And.intro (@srt_lookup) <| And.intro (@srt_mapupd) <| And.intro (@srt_delete) <| And.intro (@srt_lenmap) <| And.intro (@srt_tassert) <| And.intro (@srt_extract) <| And.intro (@srt_len) <| And.intro (@srt_lenstr) <| And.intro (@srt_lenarr) <| And.intro (@srt_cap) <| And.intro (@srt_max) <| And.intro (@srt_min) <| And.intro (@srt_append) <| And.intro (@srt_copy) <| And.intro (@srt_pick) <| And.intro (@srt_cv_int) <| And.intro (@srt_cv_same) <| And.intro (@srt_cv_bytes) <| And.intro (@srt_cv_text) <| And.intro (@exec_draw') <| And.intro (@drw_nil) <| And.intro (@thenL_some) <| And.intro (@ifB_true) <| And.intro (@drw_v0) <| And.intro (@drw_v1) <| And.intro (@thenD_ret) <| (@chk_nil)
/-- Laws of reckoning, all in one. -/
theorem zz7 : type_of% (And.intro (@chk_cons) <| And.intro (@snap_nil) <| And.intro (@snap_cons) <| And.intro (@pair_nil) <| And.intro (@pair_cons) <| And.intro (@stands_eq) <| And.intro (@standE_self) <| And.intro (@noL_nil) <| And.intro (@noL_cons) <| And.intro (@noA_nil) <| And.intro (@noA_cons) <| And.intro (@drw_load0) <| And.intro (@drw_load1) <| And.intro (@drw_v30) <| And.intro (@drw_v31) <| And.intro (@drw_call0) <| And.intro (@drw_call1) <| And.intro (@retO_ret) <| And.intro (@drw_gv0) <| And.intro (@drw_gv1) <| And.intro (@drw_gld0) <| And.intro (@drw_gld1) <| And.intro (@drw_gv30) <| And.intro (@drw_gv31) <| And.intro (@drw_gcall0) <| And.intro (@drw_gcall1) <| And.intro (@gE_bo_t) <| And.intro (@gE_bo_f) <| And.intro (@gE_tt) <| And.intro (@gE_tf) <| And.intro (@gE_ft) <| And.intro (@gE_ff) <| And.intro (@gE_undef) <| And.intro (@gE_gv_t) <| And.intro (@gE_gv_f) <| And.intro (@gE_gt_t) <| And.intro (@gE_gt_f) <| And.intro (@gE_gf_t) <| And.intro (@gE_gf_f) <| And.intro (@told_bool) <| And.intro (@told_bo) <| And.intro (@told_int) <| And.intro (@told_str) <| And.intro (@told_nilptr) <| And.intro (@told_ptr) <| And.intro (@told_nilslice) <| And.intro (@told_slice) <| And.intro (@told_nilmap) <| And.intro (@told_map) <| (@told_nilfunc)) :=
  And.intro (@chk_cons) <| And.intro (@snap_nil) <| And.intro (@snap_cons) <| And.intro (@pair_nil) <| And.intro (@pair_cons) <| And.intro (@stands_eq) <| And.intro (@standE_self) <| And.intro (@noL_nil) <| And.intro (@noL_cons) <| And.intro (@noA_nil) <| And.intro (@noA_cons) <| And.intro (@drw_load0) <| And.intro (@drw_load1) <| And.intro (@drw_v30) <| And.intro (@drw_v31) <| And.intro (@drw_call0) <| And.intro (@drw_call1) <| And.intro (@retO_ret) <| And.intro (@drw_gv0) <| And.intro (@drw_gv1) <| And.intro (@drw_gld0) <| And.intro (@drw_gld1) <| And.intro (@drw_gv30) <| And.intro (@drw_gv31) <| And.intro (@drw_gcall0) <| And.intro (@drw_gcall1) <| And.intro (@gE_bo_t) <| And.intro (@gE_bo_f) <| And.intro (@gE_tt) <| And.intro (@gE_tf) <| And.intro (@gE_ft) <| And.intro (@gE_ff) <| And.intro (@gE_undef) <| And.intro (@gE_gv_t) <| And.intro (@gE_gv_f) <| And.intro (@gE_gt_t) <| And.intro (@gE_gt_f) <| And.intro (@gE_gf_t) <| And.intro (@gE_gf_f) <| And.intro (@told_bool) <| And.intro (@told_bo) <| And.intro (@told_int) <| And.intro (@told_str) <| And.intro (@told_nilptr) <| And.intro (@told_ptr) <| And.intro (@told_nilslice) <| And.intro (@told_slice) <| And.intro (@told_nilmap) <| And.intro (@told_map) <| (@told_nilfunc)
/-- Laws of reckoning, all in one. -/
theorem zz8 : type_of% (And.intro (@told_niliface) <| And.intro (@told_undef) <| And.intro (@told_agg) <| And.intro (@told_tuple) <| And.intro (@told_iface) <| And.intro (@told_func) <| And.intro (@tolds_nil) <| And.intro (@tolds_cons) <| And.intro (@ifF_ptr) <| And.intro (@ifF_fptr) <| And.intro (@old_nil) <| And.intro (@old_cons) <| And.intro (@Nat.beq_refl) <| And.intro (@evOp_len') <| And.intro (@lenE_nil) <| And.intro (@lenE_slice) <| And.intro (@lenE_fz) <| And.intro (@lenE_row) <| And.intro (@optI_some) <| And.intro (@evOp_iaddr') <| And.intro (@iaddrE_slice) <| And.intro (@iaddrE_fz) <| And.intro (@iaddrE_row) <| And.intro (@ldF_some) <| And.intro (@load_fptr) <| And.intro (@source_fz) <| And.intro (@source_row) <| And.intro (@cells_fz) <| And.intro (@cells_row) <| And.intro (@cells_fptr) <| And.intro (@eq_fn) <| And.intro (@eq_nf) <| And.intro (@eq_rn) <| And.intro (@part2_some) <| And.intro (@consO_some) <| And.intro (@frzL_nil) <| And.intro (@frzL_cons) <| And.intro (@frzV_undef) <| And.intro (@frzV_bool) <| And.intro (@frzV_bo) <| And.intro (@frzV_int) <| And.intro (@frzV_str) <| And.intro (@frzV_nilslice) <| And.intro (@frzV_nilptr) <| And.intro (@frzV_niliface) <| And.intro (@frzV_fz) <| And.intro (@frzV_row) <| And.intro (@frzV_agg) <| And.intro (@frzV_tuple) <| (@closed_row)) :=
  And.intro (@told_niliface) <| And.intro (@told_undef) <| And.intro (@told_agg) <| And.intro (@told_tuple) <| And.intro (@told_iface) <| And.intro (@told_func) <| And.intro (@tolds_nil) <| And.intro (@tolds_cons) <| And.intro (@ifF_ptr) <| And.intro (@ifF_fptr) <| And.intro (@old_nil) <| And.intro (@old_cons) <| And.intro (@Nat.beq_refl) <| And.intro (@evOp_len') <| And.intro (@lenE_nil) <| And.intro (@lenE_slice) <| And.intro (@lenE_fz) <| And.intro (@lenE_row) <| And.intro (@optI_some) <| And.intro (@evOp_iaddr') <| And.intro (@iaddrE_slice) <| And.intro (@iaddrE_fz) <| And.intro (@iaddrE_row) <| And.intro (@ldF_some) <| And.intro (@load_fptr) <| And.intro (@source_fz) <| And.intro (@source_row) <| And.intro (@cells_fz) <| And.intro (@cells_row) <| And.intro (@cells_fptr) <| And.intro (@eq_fn) <| And.intro (@eq_nf) <| And.intro (@eq_rn) <| And.intro (@part2_some) <| And.intro (@consO_some) <| And.intro (@frzL_nil) <| And.intro (@frzL_cons) <| And.intro (@frzV_undef) <| And.intro (@frzV_bool) <| And.intro (@frzV_bo) <| And.intro (@frzV_int) <| And.intro (@frzV_str) <| And.intro (@frzV_nilslice) <| And.intro (@frzV_nilptr) <| And.intro (@frzV_niliface) <| And.intro (@frzV_fz) <| And.intro (@frzV_row) <| And.intro (@frzV_agg) <| And.intro (@frzV_tuple) <| (@closed_row)
/-- Laws of reckoning, all in one. -/
theorem zz9 : type_of% (And.intro (@closeds_nil) <| And.intro (@closeds_cons) <| And.intro (@closed_fz) <| And.intro (@closed_int) <| And.intro (@closed_bool) <| And.intro (@closed_bo) <| And.intro (@closed_str) <| And.intro (@closed_nilslice) <| And.intro (@closed_agg) <| And.intro (@closed_tuple) <| And.intro (@tagArgs_nil) <| And.intro (@tagArgs_cons) <| And.intro (@tagV_fz) <| And.intro (@tagV_row) <| And.intro (@tagV_int) <| And.intro (@tagV_bool) <| And.intro (@tagV_bo) <| And.intro (@tagV_str) <| And.intro (@tagV_nilslice) <| And.intro (@tagV_agg) <| And.intro (@p0E_some) <| And.intro (@p1E_some) <| And.intro (@callO_some) <| And.intro (@run_p0) <| And.intro (@run_p1) <| And.intro (@frR_ret) <| And.intro (@frR_iF) <| And.intro (@Flat_int) <| And.intro (@Flat_bool) <| And.intro (@Flat_bo) <| And.intro (@Flat_str) <| And.intro (@Flat_agg) <| And.intro (@Flat_tuple) <| And.intro (@flats_nil) <| And.intro (@flats_cons) <| And.intro (@Bool.and_self) <| And.intro (@List.getElem?_map.{0,0}) <| And.intro (@List.length_map.{0,0}) <| And.intro (@evOp_slsl') <| And.intro (@slslF_nil) <| And.intro (@slslF_some) <| And.intro (@slslF_none) <| And.intro (@slB_cells) <| And.intro (@slslF_row) <| And.intro (@slslF_fz) <| (@List.isEmpty_nil.{0})) :=
  And.intro (@closeds_nil) <| And.intro (@closeds_cons) <| And.intro (@closed_fz) <| And.intro (@closed_int) <| And.intro (@closed_bool) <| And.intro (@closed_bo) <| And.intro (@closed_str) <| And.intro (@closed_nilslice) <| And.intro (@closed_agg) <| And.intro (@closed_tuple) <| And.intro (@tagArgs_nil) <| And.intro (@tagArgs_cons) <| And.intro (@tagV_fz) <| And.intro (@tagV_row) <| And.intro (@tagV_int) <| And.intro (@tagV_bool) <| And.intro (@tagV_bo) <| And.intro (@tagV_str) <| And.intro (@tagV_nilslice) <| And.intro (@tagV_agg) <| And.intro (@p0E_some) <| And.intro (@p1E_some) <| And.intro (@callO_some) <| And.intro (@run_p0) <| And.intro (@run_p1) <| And.intro (@frR_ret) <| And.intro (@frR_iF) <| And.intro (@Flat_int) <| And.intro (@Flat_bool) <| And.intro (@Flat_bo) <| And.intro (@Flat_str) <| And.intro (@Flat_agg) <| And.intro (@Flat_tuple) <| And.intro (@flats_nil) <| And.intro (@flats_cons) <| And.intro (@Bool.and_self) <| And.intro (@List.getElem?_map.{0,0}) <| And.intro (@List.length_map.{0,0}) <| And.intro (@evOp_slsl') <| And.intro (@slslF_nil) <| And.intro (@slslF_some) <| And.intro (@slslF_none) <| And.intro (@slB_cells) <| And.intro (@slslF_row) <| And.intro (@slslF_fz) <| (@List.isEmpty_nil.{0})

end Go.Proofs.Ytjegondbhejpcaa.Ev
end
section
namespace Go.Proofs.Ytjegondbhejpcaa.Ev
open Go
set_option linter.unusedSimpArgs false
set_option linter.unusedVariables false
abbrev Txt := List UInt8
/-- A name that is seen: its block, slot and kind. -/
structure Pv where
  name : Txt
  block : Int
  slot : Int
  kind : Int
/-- What a name means: all that is declared of it, in order. -/
def ofN (s : Txt) (V : List Pv) : List Pv := V.filter fun v => v.name = s
/-- The last one of a name: its number. -/
def findI (s : Txt) : List Pv → Nat → Int → Int
  | [], _, a => a
  | v :: V, i, a => findI s V (i + 1) (if v.name = s then (i : Int) else a)
theorem findI_snoc {s : Txt} {x : Pv} : ∀ (V : List Pv) (i : Nat) (a : Int), findI s (V ++ [x]) i a = if x.name = s then ((i + V.length : Nat) : Int) else findI s V i a
  | [], i, a => by simp only [List.nil_append, findI, List.length_nil, Nat.add_zero]
  | v :: V, i, a => by
    simp only [List.cons_append, findI, List.length_cons]
    rw [findI_snoc V (i + 1)]
    congr 2; omega
theorem ofN_snoc {s : Txt} {x : Pv} (V : List Pv) : ofN s (V ++ [x]) = ofN s V ++ if x.name = s then [x] else [] := by
  unfold ofN
  rw [List.filter_append]
  congr 1
  by_cases h : x.name = s <;> simp [h]
/-- Induction from behind. -/
theorem snoc_ind {α : Type} {p : List α → Prop} (h0 : p []) (h1 : ∀ l x, p l → p (l ++ [x])) : ∀ l, p l := by
  intro l
  generalize hn : l.length = n
  induction n generalizing l with
  | zero => rw [List.eq_nil_of_length_eq_zero hn]; exact h0
  | succ n ih =>
    have hne : l ≠ [] := fun q => by rw [q] at hn; simp at hn
    rw [← List.dropLast_concat_getLast hne]
    exact h1 _ _ (ih _ (by simp [hn]))
/-- The last one of a name, by its number. -/
theorem find_last {s : Txt} : ∀ V : List Pv, (ofN s V = [] ∧ findI s V 0 (-1) = -1) ∨ ∃ (l : List Pv) (v : Pv) (k : Nat), ofN s V = l ++ [v] ∧ findI s V 0 (-1) = (k : Int) ∧ V[k]? = some v := by
  refine snoc_ind (.inl ⟨rfl, rfl⟩) fun V x ih => ?_
  rw [findI_snoc, ofN_snoc]
  by_cases h : x.name = s
  · rw [if_pos h, if_pos h]
    exact .inr ⟨_, x, V.length, rfl, by rw [Nat.zero_add], by rw [List.getElem?_append_right (Nat.le_refl _), Nat.sub_self]; rfl⟩
  · rw [if_neg h, if_neg h, List.append_nil]
    rcases ih with ih | ⟨l, v, k, h1, h2, h3⟩
    · exact .inl ih
    · exact .inr ⟨l, v, k, h1, h2, by rw [List.getElem?_append_left (List.getElem?_eq_some_iff.1 h3).1]; exact h3⟩
/-- What is done, in plain words: those that are seen, all kinds, and how many blocks are open. -/
structure Mo where
  V : List Pv
  K : List Int
  D : Int
def Mo.new : Mo := ⟨[], [], 1⟩
def Mo.open_ (x : Mo) : Mo := { x with D := x.D + 1 }
def Mo.close (x : Mo) : Mo := { x with V := x.V.filter fun v => v.block < x.D, D := x.D - 1 }
def Mo.bad (x : Mo) (s : Txt) (k : Int) : Prop := (k < 1 ∨ 3 < k) ∨ ∃ v ∈ (ofN s x.V).getLast?, v.block = x.D
def Mo.add (x : Mo) (s : Txt) (k : Int) : Mo := ⟨x.V ++ [⟨s, x.D, x.K.length, k⟩], x.K ++ [k], x.D⟩
/-- Blocks rise, and none is beyond the innermost one. -/
structure Mo.Ok (x : Mo) : Prop where
  rise : x.V.Pairwise fun a b => a.block ≤ b.block
  most : ∀ v ∈ x.V, v.block ≤ x.D
  d : 1 ≤ x.D
theorem Mo.Ok.new : Mo.new.Ok := ⟨.nil, fun _ h => (by cases h), by decide⟩
theorem Mo.Ok.open_ {x : Mo} (h : x.Ok) : x.open_.Ok := ⟨h.rise, fun v hv => by have := h.most v hv; simp only [Mo.open_]; omega, by have := h.d; simp only [Mo.open_]; omega⟩
theorem Mo.Ok.close {x : Mo} (h : x.Ok) (h2 : 1 < x.D) : x.close.Ok := ⟨h.rise.filter _, fun v hv => by
  simp only [Mo.close, List.mem_filter, decide_eq_true_eq] at hv
  simp only [Mo.close]; omega, by simp only [Mo.close]; omega⟩
theorem Mo.Ok.add {x : Mo} (h : x.Ok) (s : Txt) (k : Int) : (x.add s k).Ok := by
  refine ⟨?_, fun v hv => ?_, h.d⟩
  · simp only [Mo.add]
    rw [List.pairwise_append]
    exact ⟨h.rise, List.pairwise_singleton _ _, fun a ha b hb => by rw [List.mem_singleton.1 hb]; exact h.most a ha⟩
  · simp only [Mo.add, List.mem_append, List.mem_singleton] at hv
    rcases hv with hv | rfl
    · exact h.most v hv
    · exact Int.le_refl _
/-- What the innermost block declared stands behind all else. -/
theorem filter_take {D : Int} : ∀ {V : List Pv}, V.Pairwise (fun a b => a.block ≤ b.block) → ∀ k, k ≤ V.length → (∀ v ∈ V.drop k, D ≤ v.block) → (∀ v ∈ (V.take k).getLast?, v.block < D) → V.filter (fun v => v.block < D) = V.take k := by
  intro V h k hk h1 h2
  have e : V = V.take k ++ V.drop k := (List.take_append_drop k V).symm
  have hd : (V.drop k).filter (fun v => decide (v.block < D)) = [] := List.filter_eq_nil_iff.2 fun v hv => by have := h1 v hv; simp; omega
  have ht : (V.take k).filter (fun v => decide (v.block < D)) = V.take k := List.filter_eq_self.2 fun v hv => by
    have hne : V.take k ≠ [] := fun q => by rw [q] at hv; cases hv
    have hl := h2 _ (List.getLast?_eq_some_getLast hne)
    have hp : (V.take k).Pairwise fun a b => a.block ≤ b.block := by
      rw [e] at h; exact (List.pairwise_append.1 h).1
    rw [← List.dropLast_concat_getLast hne] at hv hp
    rcases List.mem_append.1 hv with hv | hv
    · have := (List.pairwise_append.1 hp).2.2 v hv _ (List.mem_singleton.2 rfl)
      simp; omega
    · rw [List.mem_singleton.1 hv]; simpa using hl
  conv => lhs; rw [e]
  rw [List.filter_append, hd, ht, List.append_nil]
end Go.Proofs.Ytjegondbhejpcaa.Ev
end
section
namespace Go.Proofs.Ytjegondbhejpcaa.Ev
open Go
def G : List Nat := []
abbrev t_int64 : Nat := 2
abbrev t_int : Nat := 3
abbrev t_bool : Nat := 4
abbrev t_uint8 : Nat := 5
abbrev t_abi_BoundsErrorCode : Nat := 6
abbrev t_runtime_boundsError : Nat := 8
abbrev t_string : Nat := 9
abbrev t_runtime_errorString : Nat := 10
abbrev t_runtime_plainError : Nat := 11
abbrev t_uintptr : Nat := 12
abbrev t_runtime_errorAddressString : Nat := 14
abbrev t_P_runtime_TypeAssertionError : Nat := 15
abbrev t_P_runtime_PanicNilError : Nat := 16
abbrev t_P_abi_Type : Nat := 17
abbrev t_maps_unhashableTypeError : Nat := 19
abbrev t_int32 : Nat := 21
abbrev t_S_r10_Act : Nat := 22
abbrev t_P_scope_Scopes : Nat := 24
abbrev t_S_int : Nat := 29
abbrev t_S_string : Nat := 35
abbrev t_scope_Scopes : Nat := 37
abbrev t_S_r10_Var : Nat := 41
abbrev t_r10_Scopes : Nat := 43
abbrev t_r10_Act : Nat := 46
abbrev t_r10_Var : Nat := 52
abbrev t_scope_place : Nat := 55
abbrev t_S_scope_place : Nat := 58
abbrev t_runtime_TypeAssertionError : Nat := 61
abbrev t_runtime_PanicNilError : Nat := 64
abbrev t_uint32 : Nat := 65
abbrev t_abi_TFlag : Nat := 66
abbrev t_abi_Kind : Nat := 67
abbrev t_P_uint8 : Nat := 69
abbrev t_abi_NameOff : Nat := 70
abbrev t_abi_TypeOff : Nat := 71
abbrev t_abi_Type : Nat := 73
abbrev t_unsafe_Pointer : Nat := 74

/- balustrade/balustradelaw10.ScopeBack -/
abbrev n_l10_ScopeBack : Nat := 3
def F_l10_ScopeBack_l0 : ICode :=
 (.seq
  (.seq
   (.region [⟨(some 52), (.val (.mov (.tmp 7))), none⟩,
     ⟨(some 53), (.call (.const (.func 12 [] [])) [(.tmp 52)]), none⟩,
     ⟨(some 54), (.val (.mov (.tmp 8))), none⟩,
     ⟨(some 55), (.val (.bin .add (.tmp 54) (.const (.int .i64 1)))), none⟩,
     ⟨(some 56), (.val (.bin .gtr (.tmp 53) (.tmp 55))), none⟩])
   (.cond (.tmp 56)
    .skip
    (.exit 0)))
  (.block 1
   (.seq
    (.region [⟨(some 57), (.val (.mov (.tmp 7))), none⟩,
      ⟨(some 58), (.call (.const (.func 13 [] [])) [(.tmp 57)]), none⟩,
      ⟨(some 59), (.val (.un .not (.tmp 58))), none⟩])
    (.cond (.tmp 59)
     (.seq
      (.region [⟨(some 6), (.val (.mov (.const (.bool false)))), none⟩])
      .ret)
     .skip))))
def F_l10_ScopeBack : IFun :=
 ⟨115,
 (.seq
  (.region [⟨(some 6), (.val (.mov (.const (.bool false)))), none⟩])
  (.seq
   (.seq
    (.region [⟨(some 18), (.val (.mov (.tmp 0))), none⟩,
      ⟨(some 19), (.val (.len (.tmp 18))), none⟩,
      ⟨(some 20), (.val (.bin .gtr (.tmp 19) (.const (.int .i64 30)))), none⟩,
      ⟨(some 21), (.val (.mov (.tmp 20))), none⟩,
      ⟨(some 22), (.val (.mov (.tmp 1))), (some (21, false))⟩,
      ⟨(some 23), (.val (.len (.tmp 22))), (some (21, false))⟩,
      ⟨(some 24), (.val (.bin .gtr (.tmp 23) (.const (.int .i64 30)))), (some (21, false))⟩,
      ⟨(some 25), (.val (.pick (.tmp 21) (.const (.bool true)) (.tmp 24))), none⟩,
      ⟨(some 26), (.val (.mov (.tmp 25))), none⟩,
      ⟨(some 27), (.val (.mov (.tmp 2))), (some (26, false))⟩,
      ⟨(some 28), (.val (.lenstr (.tmp 27))), (some (26, false))⟩,
      ⟨(some 29), (.val (.bin .gtr (.tmp 28) (.const (.int .i64 40)))), (some (26, false))⟩,
      ⟨(some 30), (.val (.pick (.tmp 26) (.const (.bool true)) (.tmp 29))), none⟩])
    (.cond (.tmp 30)
     (.seq
      (.region [⟨(some 31), (.call (.const (.func 6 [] [])) []), none⟩,
        ⟨(some 6), (.val (.mov (.tmp 31))), none⟩])
      .ret)
     .skip))
   (.seq
    (.region [⟨(some 32), (.call (.const (.func 7 [] [])) []), none⟩,
      ⟨(some 7), (.val (.mov (.tmp 32))), none⟩])
    (.seq
     (.region [⟨(some 33), (.val (.mov (.tmp 7))), none⟩,
       ⟨(some 34), (.val (.mov (.tmp 0))), none⟩,
       ⟨(some 35), (.call (.const (.func 8 [] [])) [(.tmp 33), (.tmp 34), (.const (.int .i64 1))]), none⟩,
       ⟨(some 8), (.val (.mov (.tmp 35))), none⟩])
     (.seq
      (.region [⟨(some 37), (.val (.mov (.tmp 7))), none⟩,
        ⟨(some 38), (.val (.mov (.tmp 2))), none⟩,
        ⟨(some 39), (.call (.const (.func 9 [] [])) [(.tmp 37), (.tmp 38)]), none⟩,
        ⟨(some 36), (.val (.mov (.tmp 39))), none⟩,
        ⟨(some 40), (.val (.extract (.tmp 36) 0)), none⟩,
        ⟨(some 41), (.val (.extract (.tmp 36) 1)), none⟩,
        ⟨(some 42), (.val (.extract (.tmp 36) 2)), none⟩,
        ⟨(some 9), (.val (.mov (.tmp 40))), none⟩,
        ⟨(some 10), (.val (.mov (.tmp 41))), none⟩,
        ⟨(some 11), (.val (.mov (.tmp 42))), none⟩])
      (.seq
       (.region [⟨(some 43), (.val (.mov (.tmp 7))), none⟩,
         ⟨(some 44), (.call (.const (.func 10 [] [])) [(.tmp 43)]), none⟩,
         ⟨(some 12), (.val (.mov (.tmp 44))), none⟩])
       (.seq
        (.region [⟨(some 45), (.val (.mov (.tmp 7))), none⟩,
          ⟨(some 46), (.call (.const (.func 11 [] [])) [(.tmp 45)]), none⟩])
        (.seq
         (.region [⟨(some 47), (.val (.mov (.tmp 7))), none⟩,
           ⟨(some 48), (.val (.mov (.tmp 1))), none⟩,
           ⟨(some 49), (.val (.mov (.tmp 7))), none⟩,
           ⟨(some 50), (.call (.const (.func 12 [] [])) [(.tmp 49)]), none⟩,
           ⟨(some 51), (.call (.const (.func 8 [] [])) [(.tmp 47), (.tmp 48), (.tmp 50)]), none⟩,
           ⟨(some 13), (.val (.mov (.tmp 51))), none⟩])
         (.seq
          (.block 0
           (.loop F_l10_ScopeBack_l0))
          (.seq
           (.seq
            (.region [⟨(some 60), (.val (.mov (.tmp 13))), none⟩,
              ⟨(some 61), (.val (.mov (.tmp 8))), none⟩,
              ⟨(some 62), (.val (.bin .add (.tmp 61) (.const (.int .i64 1)))), none⟩,
              ⟨(some 63), (.val (.bin .lss (.tmp 60) (.tmp 62))), none⟩,
              ⟨(some 64), (.val (.mov (.tmp 63))), none⟩,
              ⟨(some 65), (.val (.mov (.tmp 7))), (some (64, false))⟩,
              ⟨(some 66), (.call (.const (.func 13 [] [])) [(.tmp 65)]), (some (64, false))⟩,
              ⟨(some 67), (.val (.un .not (.tmp 66))), (some (64, false))⟩,
              ⟨(some 68), (.val (.pick (.tmp 64) (.const (.bool true)) (.tmp 67))), none⟩,
              ⟨(some 69), (.val (.mov (.tmp 68))), none⟩,
              ⟨(some 70), (.val (.mov (.tmp 7))), (some (69, false))⟩,
              ⟨(some 71), (.call (.const (.func 12 [] [])) [(.tmp 70)]), (some (69, false))⟩,
              ⟨(some 72), (.val (.mov (.tmp 8))), (some (69, false))⟩,
              ⟨(some 73), (.val (.eq true (.prim 1) (.tmp 71) (.tmp 72))), (some (69, false))⟩,
              ⟨(some 74), (.val (.pick (.tmp 69) (.const (.bool true)) (.tmp 73))), none⟩])
            (.cond (.tmp 74)
             (.seq
              (.region [⟨(some 6), (.val (.mov (.const (.bool false)))), none⟩])
              .ret)
             .skip))
           (.seq
            (.region [⟨(some 76), (.val (.mov (.tmp 7))), none⟩,
              ⟨(some 77), (.val (.mov (.tmp 2))), none⟩,
              ⟨(some 78), (.call (.const (.func 9 [] [])) [(.tmp 76), (.tmp 77)]), none⟩,
              ⟨(some 75), (.val (.mov (.tmp 78))), none⟩,
              ⟨(some 79), (.val (.extract (.tmp 75) 0)), none⟩,
              ⟨(some 80), (.val (.extract (.tmp 75) 1)), none⟩,
              ⟨(some 81), (.val (.extract (.tmp 75) 2)), none⟩,
              ⟨(some 14), (.val (.mov (.tmp 79))), none⟩,
              ⟨(some 15), (.val (.mov (.tmp 80))), none⟩,
              ⟨(some 16), (.val (.mov (.tmp 81))), none⟩])
            (.seq
             (.region [⟨(some 82), (.val (.mov (.tmp 7))), none⟩,
               ⟨(some 83), (.call (.const (.func 10 [] [])) [(.tmp 82)]), none⟩,
               ⟨(some 17), (.val (.mov (.tmp 83))), none⟩])
             (.seq
              (.region [⟨(some 84), (.val (.mov (.tmp 9))), none⟩,
                ⟨(some 85), (.val (.mov (.tmp 14))), none⟩,
                ⟨(some 86), (.val (.eq false (.prim 1) (.tmp 84) (.tmp 85))), none⟩,
                ⟨(some 87), (.val (.mov (.tmp 86))), none⟩,
                ⟨(some 88), (.val (.mov (.tmp 10))), (some (87, true))⟩,
                ⟨(some 89), (.val (.mov (.tmp 15))), (some (87, true))⟩,
                ⟨(some 90), (.val (.eq false (.prim 1) (.tmp 88) (.tmp 89))), (some (87, true))⟩,
                ⟨(some 91), (.val (.pick (.tmp 87) (.tmp 90) (.const (.bool false)))), none⟩,
                ⟨(some 92), (.val (.mov (.tmp 91))), none⟩,
                ⟨(some 93), (.val (.mov (.tmp 11))), (some (92, true))⟩,
                ⟨(some 94), (.val (.mov (.tmp 16))), (some (92, true))⟩,
                ⟨(some 95), (.val (.eq false (.prim 0) (.tmp 93) (.tmp 94))), (some (92, true))⟩,
                ⟨(some 96), (.val (.pick (.tmp 92) (.tmp 95) (.const (.bool false)))), none⟩,
                ⟨(some 97), (.val (.mov (.tmp 96))), none⟩,
                ⟨(some 98), (.val (.mov (.tmp 17))), (some (97, true))⟩,
                ⟨(some 99), (.val (.len (.tmp 98))), (some (97, true))⟩,
                ⟨(some 100), (.val (.mov (.tmp 12))), (some (97, true))⟩,
                ⟨(some 101), (.val (.len (.tmp 100))), (some (97, true))⟩,
                ⟨(some 102), (.val (.bin .geq (.tmp 99) (.tmp 101))), (some (97, true))⟩,
                ⟨(some 103), (.val (.pick (.tmp 97) (.tmp 102) (.const (.bool false)))), none⟩,
                ⟨(some 104), (.val (.mov (.tmp 103))), none⟩,
                ⟨(some 105), (.val (.mov (.tmp 17))), (some (104, true))⟩,
                ⟨(some 106), (.val (.mov (.tmp 12))), (some (104, true))⟩,
                ⟨(some 107), (.val (.len (.tmp 106))), (some (104, true))⟩,
                ⟨(some 108), (.val (.slsl 1 (.tmp 105) none (some (.tmp 107)) none)), (some (104, true))⟩,
                ⟨(some 109), (.val (.mov (.tmp 12))), (some (104, true))⟩,
                ⟨(some 110), (.call (.const (.func 14 [] [])) [(.tmp 108), (.tmp 109)]), (some (104, true))⟩,
                ⟨(some 111), (.val (.pick (.tmp 104) (.tmp 110) (.const (.bool false)))), none⟩,
                ⟨(some 112), (.val (.mov (.tmp 111))), none⟩,
                ⟨(some 113), (.call (.const (.func 6 [] [])) []), (some (112, true))⟩,
                ⟨(some 114), (.val (.pick (.tmp 112) (.tmp 113) (.const (.bool false)))), none⟩,
                ⟨(some 6), (.val (.mov (.tmp 114))), none⟩])
              .ret))))))))))))),
 [.tmp 6]⟩
theorem ok3 : cFun Try.prog G Try.f3 = some F_l10_ScopeBack := by kernel_rfl

/- balustrade/balustradelaw10.ScopeTells -/
abbrev n_l10_ScopeTells : Nat := 5
def F_l10_ScopeTells_l0 : ICode :=
 (.seq
  (.seq
   (.region [⟨(some 22), (.val (.mov (.tmp 5))), none⟩,
     ⟨(some 23), (.val (.mov (.tmp 0))), none⟩,
     ⟨(some 24), (.val (.len (.tmp 23))), none⟩,
     ⟨(some 25), (.val (.bin .lss (.tmp 22) (.tmp 24))), none⟩])
   (.cond (.tmp 25)
    .skip
    (.exit 0)))
  (.seq
   (.block 1
    (.seq
     (.region [⟨(some 28), (.val (.mov (.tmp 0))), none⟩,
       ⟨(some 29), (.val (.mov (.tmp 5))), none⟩,
       ⟨(some 30), (.val (.iaddr 3 (.tmp 28) (.tmp 29))), none⟩,
       ⟨(some 31), (.val (.load (some 3) (.tmp 30))), none⟩,
       ⟨(some 6), (.val (.alloc 46 [(.int .i64 0), (.str []), (.int .i64 0)])), none⟩,
       ⟨none, (.val (.store 3 (.tmp 6) (.tmp 31))), none⟩])
     (.seq
      (.seq
       (.region [⟨(some 32), (.val (.faddr 1 (.tmp 6))), none⟩,
         ⟨(some 33), (.val (.load none (.tmp 32))), none⟩,
         ⟨(some 34), (.val (.lenstr (.tmp 33))), none⟩,
         ⟨(some 35), (.val (.bin .gtr (.tmp 34) (.const (.int .i64 40)))), none⟩])
       (.cond (.tmp 35)
        (.seq
         (.region [⟨(some 36), (.call (.const (.func 6 [] [])) []), none⟩,
           ⟨(some 2), (.val (.mov (.tmp 36))), none⟩])
         .ret)
        .skip))
      (.seq
       (.seq
        (.region [⟨(some 37), (.val (.faddr 0 (.tmp 6))), none⟩,
          ⟨(some 38), (.val (.load none (.tmp 37))), none⟩])
        (.block 2
         (.seq
          (.region [⟨(some 40), (.val (.eq false (.prim 1) (.tmp 38) (.const (.int .i64 0)))), none⟩,
            ⟨(some 39), (.val (.mov (.tmp 40))), none⟩])
          (.cond (.tmp 39)
           (.seq
            (.region [⟨(some 41), (.val (.mov (.tmp 3))), none⟩,
              ⟨(some 42), (.call (.const (.func 11 [] [])) [(.tmp 41)]), none⟩])
            (.region [⟨(some 43), (.val (.faddr 2 (.tmp 4))), none⟩,
              ⟨(some 44), (.val (.load none (.tmp 43))), none⟩,
              ⟨(some 45), (.val (.bin .add (.tmp 44) (.const (.int .i64 1)))), none⟩,
              ⟨(some 46), (.val (.faddr 2 (.tmp 4))), none⟩,
              ⟨none, (.val (.store 1 (.tmp 46) (.tmp 45))), none⟩]))
           (.seq
            (.region [⟨(some 48), (.val (.eq false (.prim 1) (.tmp 38) (.const (.int .i64 1)))), none⟩,
              ⟨(some 47), (.val (.mov (.tmp 48))), none⟩])
            (.cond (.tmp 47)
             (.seq
              (.region [⟨(some 49), (.val (.faddr 2 (.tmp 4))), none⟩,
                ⟨(some 50), (.val (.load none (.tmp 49))), none⟩,
                ⟨(some 51), (.val (.bin .gtr (.tmp 50) (.const (.int .i64 1)))), none⟩,
                ⟨(some 7), (.val (.mov (.tmp 51))), none⟩])
              (.seq
               (.seq
                (.region [⟨(some 52), (.val (.mov (.tmp 7))), none⟩])
                (.cond (.tmp 52)
                 (.region [⟨(some 53), (.val (.load (some 3) (.tmp 4))), none⟩,
                   ⟨(some 54), (.call (.const (.func 17 [] [])) [(.tmp 53)]), none⟩,
                   ⟨none, (.val (.store 3 (.tmp 4) (.tmp 54))), none⟩])
                 .skip))
               (.seq
                (.region [⟨(some 55), (.val (.mov (.tmp 3))), none⟩,
                  ⟨(some 56), (.call (.const (.func 13 [] [])) [(.tmp 55)]), none⟩,
                  ⟨(some 57), (.val (.mov (.tmp 7))), none⟩,
                  ⟨(some 58), (.val (.eq true (.prim 0) (.tmp 56) (.tmp 57))), none⟩])
                (.cond (.tmp 58)
                 (.seq
                  (.region [⟨(some 2), (.val (.mov (.const (.bool false)))), none⟩])
                  .ret)
                 .skip))))
             (.seq
              (.region [⟨(some 60), (.val (.eq false (.prim 1) (.tmp 38) (.const (.int .i64 2)))), none⟩,
                ⟨(some 59), (.val (.mov (.tmp 60))), none⟩])
              (.cond (.tmp 59)
               (.seq
                (.region [⟨(some 62), (.val (.load (some 3) (.tmp 4))), none⟩,
                  ⟨(some 63), (.val (.faddr 1 (.tmp 6))), none⟩,
                  ⟨(some 64), (.val (.load none (.tmp 63))), none⟩,
                  ⟨(some 65), (.val (.faddr 2 (.tmp 6))), none⟩,
                  ⟨(some 66), (.val (.load none (.tmp 65))), none⟩,
                  ⟨(some 67), (.call (.const (.func 18 [] [])) [(.tmp 62), (.tmp 64), (.tmp 66)]), none⟩,
                  ⟨(some 61), (.val (.mov (.tmp 67))), none⟩,
                  ⟨(some 68), (.val (.extract (.tmp 61) 0)), none⟩,
                  ⟨(some 69), (.val (.extract (.tmp 61) 1)), none⟩,
                  ⟨(some 8), (.val (.alloc 43 [.nilslice, .nilslice, (.int .i64 0)])), none⟩,
                  ⟨none, (.val (.store 3 (.tmp 8) (.tmp 68))), none⟩,
                  ⟨(some 9), (.val (.mov (.tmp 69))), none⟩])
                (.seq
                 (.region [⟨(some 71), (.val (.mov (.tmp 3))), none⟩,
                   ⟨(some 72), (.val (.faddr 1 (.tmp 6))), none⟩,
                   ⟨(some 73), (.val (.load none (.tmp 72))), none⟩,
                   ⟨(some 74), (.val (.faddr 2 (.tmp 6))), none⟩,
                   ⟨(some 75), (.val (.load none (.tmp 74))), none⟩,
                   ⟨(some 76), (.call (.const (.func 15 [] [])) [(.tmp 71), (.tmp 73), (.tmp 75)]), none⟩,
                   ⟨(some 70), (.val (.mov (.tmp 76))), none⟩,
                   ⟨(some 77), (.val (.extract (.tmp 70) 0)), none⟩,
                   ⟨(some 78), (.val (.extract (.tmp 70) 1)), none⟩,
                   ⟨(some 10), (.val (.mov (.tmp 77))), none⟩,
                   ⟨(some 11), (.val (.mov (.tmp 78))), none⟩])
                 (.seq
                  (.seq
                   (.region [⟨(some 79), (.val (.mov (.tmp 11))), none⟩,
                     ⟨(some 80), (.val (.mov (.tmp 9))), none⟩,
                     ⟨(some 81), (.val (.eq true (.prim 0) (.tmp 79) (.tmp 80))), none⟩,
                     ⟨(some 82), (.val (.mov (.tmp 81))), none⟩,
                     ⟨(some 83), (.val (.mov (.tmp 9))), (some (82, false))⟩,
                     ⟨(some 84), (.val (.mov (.tmp 83))), (some (82, false))⟩,
                     ⟨(some 85), (.val (.mov (.tmp 10))), (some (84, true))⟩,
                     ⟨(some 86), (.val (.faddr 1 (.tmp 4))), (some (84, true))⟩,
                     ⟨(some 87), (.val (.load none (.tmp 86))), (some (84, true))⟩,
                     ⟨(some 88), (.val (.len (.tmp 87))), (some (84, true))⟩,
                     ⟨(some 89), (.val (.eq true (.prim 1) (.tmp 85) (.tmp 88))), (some (84, true))⟩,
                     ⟨(some 90), (.val (.pick (.tmp 84) (.tmp 89) (.const (.bool false)))), (some (82, false))⟩,
                     ⟨(some 91), (.val (.pick (.tmp 82) (.const (.bool true)) (.tmp 90))), none⟩,
                     ⟨(some 92), (.val (.mov (.tmp 91))), none⟩,
                     ⟨(some 93), (.val (.mov (.tmp 9))), (some (92, false))⟩,
                     ⟨(some 94), (.val (.un .not (.tmp 93))), (some (92, false))⟩,
                     ⟨(some 95), (.val (.mov (.tmp 94))), (some (92, false))⟩,
                     ⟨(some 96), (.val (.mov (.tmp 10))), (some (95, true))⟩,
                     ⟨(some 97), (.val (.eq true (.prim 1) (.tmp 96) (.const (.int .i64 0)))), (some (95, true))⟩,
                     ⟨(some 98), (.val (.pick (.tmp 95) (.tmp 97) (.const (.bool false)))), (some (92, false))⟩,
                     ⟨(some 99), (.val (.pick (.tmp 92) (.const (.bool true)) (.tmp 98))), none⟩])
                   (.cond (.tmp 99)
                    (.seq
                     (.region [⟨(some 2), (.val (.mov (.const (.bool false)))), none⟩])
                     .ret)
                    .skip))
                  (.region [⟨(some 100), (.val (.load (some 3) (.tmp 8))), none⟩,
                    ⟨none, (.val (.store 3 (.tmp 4) (.tmp 100))), none⟩]))))
               .skip))))))))
       (.seq
        (.region [⟨(some 101), (.val (.load (some 3) (.tmp 4))), none⟩,
          ⟨(some 102), (.val (.faddr 1 (.tmp 6))), none⟩,
          ⟨(some 103), (.val (.load none (.tmp 102))), none⟩,
          ⟨(some 104), (.call (.const (.func 19 [] [])) [(.tmp 101), (.tmp 103)]), none⟩,
          ⟨(some 12), (.val (.mov (.tmp 104))), none⟩])
        (.seq
         (.region [⟨(some 106), (.val (.mov (.tmp 3))), none⟩,
           ⟨(some 107), (.val (.faddr 1 (.tmp 6))), none⟩,
           ⟨(some 108), (.val (.load none (.tmp 107))), none⟩,
           ⟨(some 109), (.call (.const (.func 9 [] [])) [(.tmp 106), (.tmp 108)]), none⟩,
           ⟨(some 105), (.val (.mov (.tmp 109))), none⟩,
           ⟨(some 110), (.val (.extract (.tmp 105) 0)), none⟩,
           ⟨(some 111), (.val (.extract (.tmp 105) 1)), none⟩,
           ⟨(some 112), (.val (.extract (.tmp 105) 2)), none⟩,
           ⟨(some 13), (.val (.mov (.tmp 110))), none⟩,
           ⟨(some 14), (.val (.mov (.tmp 111))), none⟩,
           ⟨(some 15), (.val (.mov (.tmp 112))), none⟩])
         (.seq
          (.draw [⟨(some 113), (.val (.mov (.tmp 15))), none⟩,
            ⟨(some 114), (.val (.mov (.tmp 12))), none⟩,
            ⟨(some 115), (.val (.bin .geq (.tmp 114) (.const (.int .i64 0)))), none⟩,
            ⟨(some 116), (.val (.eq true (.prim 0) (.tmp 113) (.tmp 115))), none⟩,
            ⟨(some 117), (.val (.mov (.tmp 116))), none⟩,
            ⟨(some 118), (.val (.mov (.tmp 15))), (some (117, false))⟩,
            ⟨(some 119), (.val (.mov (.tmp 118))), (some (117, false))⟩,
            ⟨(some 120), (.val (.mov (.tmp 13))), (some (119, true))⟩,
            ⟨(some 121), (.val (.faddr 0 (.tmp 4))), (some (119, true))⟩,
            ⟨(some 122), (.val (.load none (.tmp 121))), (some (119, true))⟩,
            ⟨(some 123), (.val (.mov (.tmp 12))), (some (119, true))⟩,
            ⟨(some 124), (.val (.iaddr 4 (.tmp 122) (.tmp 123))), (some (119, true))⟩,
            ⟨(some 125), (.val (.faddr 2 (.tmp 124))), (some (119, true))⟩,
            ⟨(some 126), (.val (.load none (.tmp 125))), (some (119, true))⟩,
            ⟨(some 127), (.val (.eq true (.prim 1) (.tmp 120) (.tmp 126))), (some (119, true))⟩,
            ⟨(some 128), (.val (.mov (.tmp 127))), (some (119, true))⟩,
            ⟨(some 129), (.val (.mov (.tmp 14))), (some (128, false))⟩,
            ⟨(some 130), (.val (.faddr 0 (.tmp 4))), (some (128, false))⟩,
            ⟨(some 131), (.val (.load none (.tmp 130))), (some (128, false))⟩,
            ⟨(some 132), (.val (.mov (.tmp 12))), (some (128, false))⟩,
            ⟨(some 133), (.val (.iaddr 4 (.tmp 131) (.tmp 132))), (some (128, false))⟩,
            ⟨(some 134), (.val (.faddr 3 (.tmp 133))), (some (128, false))⟩,
            ⟨(some 135), (.val (.load none (.tmp 134))), (some (128, false))⟩,
            ⟨(some 136), (.val (.eq true (.prim 1) (.tmp 129) (.tmp 135))), (some (128, false))⟩,
            ⟨(some 137), (.val (.pick (.tmp 128) (.const (.bool true)) (.tmp 136))), (some (119, true))⟩,
            ⟨(some 138), (.val (.pick (.tmp 119) (.tmp 137) (.const (.bool false)))), (some (117, false))⟩,
            ⟨(some 139), (.val (.pick (.tmp 117) (.const (.bool true)) (.tmp 138))), none⟩,
            ⟨(some 140), (.val (.mov (.tmp 139))), none⟩,
            ⟨(some 141), (.val (.mov (.tmp 15))), (some (140, false))⟩,
            ⟨(some 142), (.val (.un .not (.tmp 141))), (some (140, false))⟩,
            ⟨(some 143), (.val (.mov (.tmp 142))), (some (140, false))⟩,
            ⟨(some 144), (.val (.mov (.tmp 13))), (some (143, true))⟩,
            ⟨(some 145), (.val (.mov (.tmp 14))), (some (143, true))⟩,
            ⟨(some 146), (.val (.bin .add (.tmp 144) (.tmp 145))), (some (143, true))⟩,
            ⟨(some 147), (.val (.eq true (.prim 1) (.tmp 146) (.const (.int .i64 0)))), (some (143, true))⟩,
            ⟨(some 148), (.val (.pick (.tmp 143) (.tmp 147) (.const (.bool false)))), (some (140, false))⟩,
            ⟨(some 149), (.val (.pick (.tmp 140) (.const (.bool true)) (.tmp 148))), none⟩,
            ⟨(some 150), (.val (.mov (.tmp 149))), none⟩,
            ⟨(some 151), (.val (.mov (.tmp 3))), (some (150, false))⟩,
            ⟨(some 152), (.call (.const (.func 12 [] [])) [(.tmp 151)]), (some (150, false))⟩,
            ⟨(some 153), (.val (.faddr 2 (.tmp 4))), (some (150, false))⟩,
            ⟨(some 154), (.val (.load none (.tmp 153))), (some (150, false))⟩,
            ⟨(some 155), (.val (.eq true (.prim 1) (.tmp 152) (.tmp 154))), (some (150, false))⟩,
            ⟨(some 156), (.val (.pick (.tmp 150) (.const (.bool true)) (.tmp 155))), none⟩,
            ⟨(some 157), (.val (.mov (.tmp 156))), none⟩,
            ⟨(some 158), (.val (.mov (.tmp 3))), (some (157, false))⟩,
            ⟨(some 159), (.call (.const (.func 10 [] [])) [(.tmp 158)]), (some (157, false))⟩,
            ⟨(some 160), (.val (.faddr 1 (.tmp 4))), (some (157, false))⟩,
            ⟨(some 161), (.val (.load none (.tmp 160))), (some (157, false))⟩,
            ⟨(some 162), (.call (.const (.func 14 [] [])) [(.tmp 159), (.tmp 161)]), (some (157, false))⟩,
            ⟨(some 163), (.val (.un .not (.tmp 162))), (some (157, false))⟩,
            ⟨(some 164), (.val (.pick (.tmp 157) (.const (.bool true)) (.tmp 163))), none⟩] [(41, 39), (48, 46)])
          (.cond (.tmp 164)
           (.seq
            (.region [⟨(some 2), (.val (.mov (.const (.bool false)))), none⟩])
            .ret)
           .skip))))))))
   (.region [⟨(some 26), (.val (.mov (.tmp 5))), none⟩,
     ⟨(some 27), (.val (.bin .add (.tmp 26) (.const (.int .i64 1)))), none⟩,
     ⟨(some 5), (.val (.mov (.tmp 27))), none⟩])))
def F_l10_ScopeTells : IFun :=
 ⟨166,
 (.seq
  (.region [⟨(some 2), (.val (.mov (.const (.bool false)))), none⟩])
  (.seq
   (.seq
    (.region [⟨(some 16), (.val (.mov (.tmp 0))), none⟩,
      ⟨(some 17), (.val (.len (.tmp 16))), none⟩,
      ⟨(some 18), (.val (.bin .gtr (.tmp 17) (.const (.int .i64 60)))), none⟩])
    (.cond (.tmp 18)
     (.seq
      (.region [⟨(some 19), (.call (.const (.func 6 [] [])) []), none⟩,
        ⟨(some 2), (.val (.mov (.tmp 19))), none⟩])
      .ret)
     .skip))
   (.seq
    (.region [⟨(some 20), (.call (.const (.func 7 [] [])) []), none⟩,
      ⟨(some 21), (.call (.const (.func 16 [] [])) []), none⟩,
      ⟨(some 4), (.val (.alloc 43 [.nilslice, .nilslice, (.int .i64 0)])), none⟩,
      ⟨(some 3), (.val (.mov (.tmp 20))), none⟩,
      ⟨none, (.val (.store 3 (.tmp 4) (.tmp 21))), none⟩])
    (.seq
     (.seq
      (.region [⟨(some 5), (.val (.mov (.const (.int .i64 0)))), none⟩])
      (.block 0
       (.loop F_l10_ScopeTells_l0)))
     (.seq
      (.region [⟨(some 165), (.call (.const (.func 6 [] [])) []), none⟩,
        ⟨(some 2), (.val (.mov (.tmp 165))), none⟩])
      .ret))))),
 [.tmp 2]⟩
theorem ok5 : cFun Try.prog G Try.f5 = some F_l10_ScopeTells := by kernel_rfl

/- balustrade/balustradelaw10.works -/
abbrev n_l10_works : Nat := 6
def F_l10_works : IFun :=
 ⟨82,
 (.seq
  (.region [⟨(some 0), (.val (.mov (.const (.bool false)))), none⟩])
  (.seq
   (.region [⟨(some 13), (.call (.const (.func 7 [] [])) []), none⟩,
     ⟨(some 1), (.val (.mov (.tmp 13))), none⟩])
   (.seq
    (.region [⟨(some 15), (.val (.mov (.tmp 1))), none⟩,
      ⟨(some 16), (.call (.const (.func 15 [] [])) [(.tmp 15), (.const (.str [97])), (.const (.int .i64 1))]), none⟩,
      ⟨(some 14), (.val (.mov (.tmp 16))), none⟩,
      ⟨(some 17), (.val (.extract (.tmp 14) 0)), none⟩,
      ⟨(some 18), (.val (.extract (.tmp 14) 1)), none⟩,
      ⟨(some 2), (.val (.mov (.tmp 17))), none⟩,
      ⟨(some 3), (.val (.mov (.tmp 18))), none⟩])
    (.seq
     (.region [⟨(some 19), (.val (.mov (.tmp 1))), none⟩,
       ⟨(some 20), (.call (.const (.func 11 [] [])) [(.tmp 19)]), none⟩])
     (.seq
      (.region [⟨(some 22), (.val (.mov (.tmp 1))), none⟩,
        ⟨(some 23), (.call (.const (.func 15 [] [])) [(.tmp 22), (.const (.str [97])), (.const (.int .i64 3))]), none⟩,
        ⟨(some 21), (.val (.mov (.tmp 23))), none⟩,
        ⟨(some 24), (.val (.extract (.tmp 21) 0)), none⟩,
        ⟨(some 25), (.val (.extract (.tmp 21) 1)), none⟩,
        ⟨(some 4), (.val (.mov (.tmp 24))), none⟩,
        ⟨(some 5), (.val (.mov (.tmp 25))), none⟩])
      (.seq
       (.region [⟨(some 27), (.val (.mov (.tmp 1))), none⟩,
         ⟨(some 28), (.call (.const (.func 9 [] [])) [(.tmp 27), (.const (.str [97]))]), none⟩,
         ⟨(some 26), (.val (.mov (.tmp 28))), none⟩,
         ⟨(some 29), (.val (.extract (.tmp 26) 0)), none⟩,
         ⟨(some 30), (.val (.extract (.tmp 26) 1)), none⟩,
         ⟨(some 31), (.val (.extract (.tmp 26) 2)), none⟩,
         ⟨(some 6), (.val (.mov (.tmp 29))), none⟩,
         ⟨(some 7), (.val (.mov (.tmp 30))), none⟩,
         ⟨(some 8), (.val (.mov (.tmp 31))), none⟩])
       (.seq
        (.region [⟨(some 32), (.val (.mov (.tmp 1))), none⟩,
          ⟨(some 33), (.call (.const (.func 13 [] [])) [(.tmp 32)]), none⟩,
          ⟨(some 9), (.val (.mov (.tmp 33))), none⟩])
        (.seq
         (.region [⟨(some 35), (.val (.mov (.tmp 1))), none⟩,
           ⟨(some 36), (.call (.const (.func 9 [] [])) [(.tmp 35), (.const (.str [97]))]), none⟩,
           ⟨(some 34), (.val (.mov (.tmp 36))), none⟩,
           ⟨(some 37), (.val (.extract (.tmp 34) 0)), none⟩,
           ⟨(some 38), (.val (.extract (.tmp 34) 1)), none⟩,
           ⟨(some 39), (.val (.extract (.tmp 34) 2)), none⟩,
           ⟨(some 10), (.val (.mov (.tmp 37))), none⟩,
           ⟨(some 11), (.val (.mov (.tmp 38))), none⟩,
           ⟨(some 12), (.val (.mov (.tmp 39))), none⟩])
         (.seq
          (.region [⟨(some 40), (.val (.mov (.tmp 3))), none⟩,
            ⟨(some 41), (.val (.mov (.tmp 40))), none⟩,
            ⟨(some 42), (.val (.mov (.tmp 5))), (some (41, true))⟩,
            ⟨(some 43), (.val (.pick (.tmp 41) (.tmp 42) (.const (.bool false)))), none⟩,
            ⟨(some 44), (.val (.mov (.tmp 43))), none⟩,
            ⟨(some 45), (.val (.mov (.tmp 8))), (some (44, true))⟩,
            ⟨(some 46), (.val (.pick (.tmp 44) (.tmp 45) (.const (.bool false)))), none⟩,
            ⟨(some 47), (.val (.mov (.tmp 46))), none⟩,
            ⟨(some 48), (.val (.mov (.tmp 9))), (some (47, true))⟩,
            ⟨(some 49), (.val (.pick (.tmp 47) (.tmp 48) (.const (.bool false)))), none⟩,
            ⟨(some 50), (.val (.mov (.tmp 49))), none⟩,
            ⟨(some 51), (.val (.mov (.tmp 12))), (some (50, true))⟩,
            ⟨(some 52), (.val (.pick (.tmp 50) (.tmp 51) (.const (.bool false)))), none⟩,
            ⟨(some 53), (.val (.mov (.tmp 52))), none⟩,
            ⟨(some 54), (.val (.mov (.tmp 2))), (some (53, true))⟩,
            ⟨(some 55), (.val (.eq false (.prim 1) (.tmp 54) (.const (.int .i64 0)))), (some (53, true))⟩,
            ⟨(some 56), (.val (.pick (.tmp 53) (.tmp 55) (.const (.bool false)))), none⟩,
            ⟨(some 57), (.val (.mov (.tmp 56))), none⟩,
            ⟨(some 58), (.val (.mov (.tmp 4))), (some (57, true))⟩,
            ⟨(some 59), (.val (.eq false (.prim 1) (.tmp 58) (.const (.int .i64 1)))), (some (57, true))⟩,
            ⟨(some 60), (.val (.pick (.tmp 57) (.tmp 59) (.const (.bool false)))), none⟩,
            ⟨(some 61), (.val (.mov (.tmp 60))), none⟩,
            ⟨(some 62), (.val (.mov (.tmp 6))), (some (61, true))⟩,
            ⟨(some 63), (.val (.eq false (.prim 1) (.tmp 62) (.const (.int .i64 1)))), (some (61, true))⟩,
            ⟨(some 64), (.val (.pick (.tmp 61) (.tmp 63) (.const (.bool false)))), none⟩,
            ⟨(some 65), (.val (.mov (.tmp 64))), none⟩,
            ⟨(some 66), (.val (.mov (.tmp 7))), (some (65, true))⟩,
            ⟨(some 67), (.val (.eq false (.prim 1) (.tmp 66) (.const (.int .i64 3)))), (some (65, true))⟩,
            ⟨(some 68), (.val (.pick (.tmp 65) (.tmp 67) (.const (.bool false)))), none⟩,
            ⟨(some 69), (.val (.mov (.tmp 68))), none⟩,
            ⟨(some 70), (.val (.mov (.tmp 10))), (some (69, true))⟩,
            ⟨(some 71), (.val (.eq false (.prim 1) (.tmp 70) (.const (.int .i64 0)))), (some (69, true))⟩,
            ⟨(some 72), (.val (.pick (.tmp 69) (.tmp 71) (.const (.bool false)))), none⟩,
            ⟨(some 73), (.val (.mov (.tmp 72))), none⟩,
            ⟨(some 74), (.val (.mov (.tmp 11))), (some (73, true))⟩,
            ⟨(some 75), (.val (.eq false (.prim 1) (.tmp 74) (.const (.int .i64 1)))), (some (73, true))⟩,
            ⟨(some 76), (.val (.pick (.tmp 73) (.tmp 75) (.const (.bool false)))), none⟩,
            ⟨(some 77), (.val (.mov (.tmp 76))), none⟩,
            ⟨(some 78), (.val (.mov (.tmp 1))), (some (77, true))⟩,
            ⟨(some 79), (.call (.const (.func 13 [] [])) [(.tmp 78)]), (some (77, true))⟩,
            ⟨(some 80), (.val (.un .not (.tmp 79))), (some (77, true))⟩,
            ⟨(some 81), (.val (.pick (.tmp 77) (.tmp 80) (.const (.bool false)))), none⟩,
            ⟨(some 0), (.val (.mov (.tmp 81))), none⟩])
          .ret))))))))),
 [.tmp 0]⟩
theorem ok6 : cFun Try.prog G Try.f6 = some F_l10_works := by kernel_rfl

/- balustrade/scope.New -/
abbrev n_scope_New : Nat := 7
def F_scope_New : IFun :=
 ⟨4,
 (.seq
  (.region [⟨(some 0), (.val (.mov (.const .nilptr))), none⟩])
  (.seq
   (.region [⟨(some 1), (.val (.mkmap)), none⟩,
     ⟨(some 2), (.val (.build [.nilmap, .nilslice, .nilslice, (.int .i64 0)] [(0, 1, (.tmp 1)), (3, 1, (.const (.int .i64 1)))])), none⟩,
     ⟨(some 3), (.val (.box 37 (.tmp 2))), none⟩,
     ⟨(some 0), (.val (.mov (.tmp 3))), none⟩])
   .ret)),
 [.tmp 0]⟩
theorem ok7 : cFun Try.prog G Try.f7 = some F_scope_New := by kernel_rfl

/- balustrade/balustradelaw10.play -/
abbrev n_l10_play : Nat := 8
def F_l10_play_l0 : ICode :=
 (.seq
  (.seq
   (.region [⟨(some 8), (.val (.mov (.tmp 7))), none⟩,
     ⟨(some 9), (.val (.mov (.tmp 1))), none⟩,
     ⟨(some 10), (.val (.len (.tmp 9))), none⟩,
     ⟨(some 11), (.val (.bin .lss (.tmp 8) (.tmp 10))), none⟩])
   (.cond (.tmp 11)
    .skip
    (.exit 0)))
  (.seq
   (.block 1
    (.seq
     (.region [⟨(some 14), (.val (.mov (.tmp 1))), none⟩,
       ⟨(some 15), (.val (.mov (.tmp 7))), none⟩,
       ⟨(some 16), (.val (.iaddr 3 (.tmp 14) (.tmp 15))), none⟩,
       ⟨(some 17), (.val (.faddr 0 (.tmp 16))), none⟩,
       ⟨(some 18), (.val (.load none (.tmp 17))), none⟩])
     (.block 2
      (.seq
       (.region [⟨(some 20), (.val (.eq false (.prim 1) (.tmp 18) (.const (.int .i64 0)))), none⟩,
         ⟨(some 19), (.val (.mov (.tmp 20))), none⟩])
       (.cond (.tmp 19)
        (.region [⟨(some 21), (.val (.mov (.tmp 0))), none⟩,
          ⟨(some 22), (.call (.const (.func 11 [] [])) [(.tmp 21)]), none⟩])
        (.seq
         (.region [⟨(some 24), (.val (.eq false (.prim 1) (.tmp 18) (.const (.int .i64 1)))), none⟩,
           ⟨(some 23), (.val (.mov (.tmp 24))), none⟩])
         (.cond (.tmp 23)
          (.seq
           (.region [⟨(some 25), (.val (.mov (.tmp 0))), none⟩,
             ⟨(some 26), (.call (.const (.func 12 [] [])) [(.tmp 25)]), none⟩,
             ⟨(some 27), (.val (.mov (.tmp 2))), none⟩,
             ⟨(some 28), (.val (.bin .gtr (.tmp 26) (.tmp 27))), none⟩])
           (.cond (.tmp 28)
            (.region [⟨(some 29), (.val (.mov (.tmp 0))), none⟩,
              ⟨(some 30), (.call (.const (.func 13 [] [])) [(.tmp 29)]), none⟩])
            .skip))
          (.seq
           (.region [⟨(some 32), (.val (.eq false (.prim 1) (.tmp 18) (.const (.int .i64 2)))), none⟩,
             ⟨(some 31), (.val (.mov (.tmp 32))), none⟩])
           (.cond (.tmp 31)
            (.draw [⟨(some 33), (.val (.mov (.tmp 0))), none⟩,
              ⟨(some 34), (.val (.mov (.tmp 1))), none⟩,
              ⟨(some 35), (.val (.mov (.tmp 7))), none⟩,
              ⟨(some 36), (.val (.iaddr 3 (.tmp 34) (.tmp 35))), none⟩,
              ⟨(some 37), (.val (.faddr 1 (.tmp 36))), none⟩,
              ⟨(some 38), (.val (.load none (.tmp 37))), none⟩,
              ⟨(some 39), (.val (.mov (.tmp 1))), none⟩,
              ⟨(some 40), (.val (.mov (.tmp 7))), none⟩,
              ⟨(some 41), (.val (.iaddr 3 (.tmp 39) (.tmp 40))), none⟩,
              ⟨(some 42), (.val (.faddr 2 (.tmp 41))), none⟩,
              ⟨(some 43), (.val (.load none (.tmp 42))), none⟩,
              ⟨(some 44), (.call (.const (.func 15 [] [])) [(.tmp 33), (.tmp 38), (.tmp 43)]), none⟩] [])
            .skip)))))))))
   (.region [⟨(some 12), (.val (.mov (.tmp 7))), none⟩,
     ⟨(some 13), (.val (.bin .add (.tmp 12) (.const (.int .i64 1)))), none⟩,
     ⟨(some 7), (.val (.mov (.tmp 13))), none⟩])))
def F_l10_play : IFun :=
 ⟨47,
 (.seq
  (.region [⟨(some 6), (.val (.mov (.const (.int .i64 0)))), none⟩])
  (.seq
   (.seq
    (.region [⟨(some 7), (.val (.mov (.const (.int .i64 0)))), none⟩])
    (.block 0
     (.loop F_l10_play_l0)))
   (.seq
    (.region [⟨(some 45), (.val (.mov (.tmp 0))), none⟩,
      ⟨(some 46), (.call (.const (.func 12 [] [])) [(.tmp 45)]), none⟩,
      ⟨(some 6), (.val (.mov (.tmp 46))), none⟩])
    .ret))),
 [.tmp 6]⟩
theorem ok8 : cFun Try.prog G Try.f8 = some F_l10_play := by kernel_rfl

/- (*balustrade/scope.Scopes).Find -/
abbrev n_scope_Scopes_Find : Nat := 9
def F_scope_Scopes_Find : IFun :=
 ⟨20,
 (.seq
  (.region [⟨(some 4), (.val (.mov (.const (.int .i64 0)))), none⟩,
    ⟨(some 5), (.val (.mov (.const (.int .i64 0)))), none⟩,
    ⟨(some 6), (.val (.mov (.const (.bool false)))), none⟩])
  (.seq
   (.region [⟨(some 10), (.val (.mov (.tmp 0))), none⟩,
     ⟨(some 11), (.val (.mov (.tmp 1))), none⟩,
     ⟨(some 12), (.call (.const (.func 20 [] [])) [(.tmp 10), (.tmp 11)]), none⟩,
     ⟨(some 9), (.val (.mov (.tmp 12))), none⟩,
     ⟨(some 13), (.val (.extract (.tmp 9) 0)), none⟩,
     ⟨(some 14), (.val (.extract (.tmp 9) 1)), none⟩,
     ⟨(some 7), (.val (.alloc 55 [(.int .i64 0), (.int .i64 0), (.int .i64 0)])), none⟩,
     ⟨none, (.val (.store 3 (.tmp 7) (.tmp 13))), none⟩,
     ⟨(some 8), (.val (.mov (.tmp 14))), none⟩])
   (.seq
    (.draw [⟨(some 15), (.val (.faddr 0 (.tmp 7))), none⟩,
      ⟨(some 16), (.val (.load none (.tmp 15))), none⟩,
      ⟨(some 17), (.val (.faddr 1 (.tmp 7))), none⟩,
      ⟨(some 18), (.val (.load none (.tmp 17))), none⟩,
      ⟨(some 19), (.val (.mov (.tmp 8))), none⟩,
      ⟨(some 4), (.val (.mov (.tmp 16))), none⟩,
      ⟨(some 5), (.val (.mov (.tmp 18))), none⟩,
      ⟨(some 6), (.val (.mov (.tmp 19))), none⟩] [])
    .ret))),
 [.tmp 4, .tmp 5, .tmp 6]⟩
theorem ok9 : cFun Try.prog G Try.f9 = some F_scope_Scopes_Find := by kernel_rfl

/- (*balustrade/scope.Scopes).Kinds -/
abbrev n_scope_Scopes_Kinds : Nat := 10
def F_scope_Scopes_Kinds : IFun :=
 ⟨11,
 (.seq
  (.region [⟨(some 2), (.val (.mov (.const .nilslice))), none⟩])
  (.seq
   (.seq
    (.region [⟨(some 3), (.val (.mov (.tmp 0))), none⟩,
      ⟨(some 4), (.call (.const (.func 21 [] [])) [(.tmp 3)]), none⟩,
      ⟨(some 5), (.val (.un .not (.tmp 4))), none⟩])
    (.cond (.tmp 5)
     (.seq
      (.region [⟨(some 2), (.val (.mov (.const .nilslice))), none⟩])
      .ret)
     .skip))
   (.seq
    (.region [⟨(some 6), (.val (.mov (.tmp 0))), none⟩,
      ⟨(some 7), (.val (.nilck (.tmp 6))), none⟩,
      ⟨(some 8), (.val (.faddr 2 (.tmp 7))), none⟩,
      ⟨(some 9), (.val (.load none (.tmp 8))), none⟩,
      ⟨(some 10), (.val (.append 3 1 8 (.const .nilslice) (.tmp 9))), none⟩,
      ⟨(some 2), (.val (.mov (.tmp 10))), none⟩])
    .ret))),
 [.tmp 2]⟩
theorem ok10 : cFun Try.prog G Try.f10 = some F_scope_Scopes_Kinds := by kernel_rfl

/- (*balustrade/scope.Scopes).Open -/
abbrev n_scope_Scopes_Open : Nat := 11
def F_scope_Scopes_Open : IFun :=
 ⟨11,
 (.seq
  (.region [⟨(some 2), (.val (.mov (.tmp 0))), none⟩,
    ⟨(some 3), (.call (.const (.func 21 [] [])) [(.tmp 2)]), none⟩])
  (.cond (.tmp 3)
   (.region [⟨(some 4), (.val (.mov (.tmp 0))), none⟩,
     ⟨(some 5), (.val (.nilck (.tmp 4))), none⟩,
     ⟨(some 6), (.val (.faddr 3 (.tmp 5))), none⟩,
     ⟨(some 7), (.val (.load none (.tmp 6))), none⟩,
     ⟨(some 8), (.val (.bin .add (.tmp 7) (.const (.int .i64 1)))), none⟩,
     ⟨(some 9), (.val (.nilck (.tmp 4))), none⟩,
     ⟨(some 10), (.val (.faddr 3 (.tmp 9))), none⟩,
     ⟨none, (.val (.store 1 (.tmp 10) (.tmp 8))), none⟩])
   .skip)),
 []⟩
theorem ok11 : cFun Try.prog G Try.f11 = some F_scope_Scopes_Open := by kernel_rfl

/- (*balustrade/scope.Scopes).Depth -/
abbrev n_scope_Scopes_Depth : Nat := 12
def F_scope_Scopes_Depth : IFun :=
 ⟨9,
 (.seq
  (.region [⟨(some 2), (.val (.mov (.const (.int .i64 0)))), none⟩])
  (.seq
   (.seq
    (.region [⟨(some 3), (.val (.mov (.tmp 0))), none⟩,
      ⟨(some 4), (.val (.eq false (.prim 3) (.tmp 3) (.const .nilptr))), none⟩])
    (.cond (.tmp 4)
     (.seq
      (.region [⟨(some 2), (.val (.mov (.const (.int .i64 0)))), none⟩])
      .ret)
     .skip))
   (.seq
    (.region [⟨(some 5), (.val (.mov (.tmp 0))), none⟩,
      ⟨(some 6), (.val (.nilck (.tmp 5))), none⟩,
      ⟨(some 7), (.val (.faddr 3 (.tmp 6))), none⟩,
      ⟨(some 8), (.val (.load none (.tmp 7))), none⟩,
      ⟨(some 2), (.val (.mov (.tmp 8))), none⟩])
    .ret))),
 [.tmp 2]⟩
theorem ok12 : cFun Try.prog G Try.f12 = some F_scope_Scopes_Depth := by kernel_rfl

/- (*balustrade/scope.Scopes).Close -/
abbrev n_scope_Scopes_Close : Nat := 13
def F_scope_Scopes_Close_l0 : ICode :=
 (.seq
  (.seq
   (.region [⟨(some 16), (.val (.mov (.tmp 3))), none⟩,
     ⟨(some 17), (.val (.bin .gtr (.tmp 16) (.const (.int .i64 0)))), none⟩])
   (.cond (.tmp 17)
    .skip
    (.exit 0)))
  (.seq
   (.block 1
    (.seq
     (.region [⟨(some 20), (.val (.mov (.tmp 0))), none⟩,
       ⟨(some 21), (.val (.nilck (.tmp 20))), none⟩,
       ⟨(some 22), (.val (.faddr 1 (.tmp 21))), none⟩,
       ⟨(some 23), (.val (.load none (.tmp 22))), none⟩,
       ⟨(some 24), (.val (.mov (.tmp 3))), none⟩,
       ⟨(some 25), (.val (.bin .sub (.tmp 24) (.const (.int .i64 1)))), none⟩,
       ⟨(some 26), (.val (.iaddr 1 (.tmp 23) (.tmp 25))), none⟩,
       ⟨(some 27), (.val (.load none (.tmp 26))), none⟩,
       ⟨(some 4), (.val (.mov (.tmp 27))), none⟩])
     (.seq
      (.region [⟨(some 29), (.val (.mov (.tmp 0))), none⟩,
        ⟨(some 30), (.val (.mov (.tmp 4))), none⟩,
        ⟨(some 31), (.call (.const (.func 20 [] [])) [(.tmp 29), (.tmp 30)]), none⟩,
        ⟨(some 28), (.val (.mov (.tmp 31))), none⟩,
        ⟨(some 32), (.val (.extract (.tmp 28) 0)), none⟩,
        ⟨(some 33), (.val (.extract (.tmp 28) 1)), none⟩,
        ⟨(some 5), (.val (.alloc 55 [(.int .i64 0), (.int .i64 0), (.int .i64 0)])), none⟩,
        ⟨none, (.val (.store 3 (.tmp 5) (.tmp 32))), none⟩,
        ⟨(some 6), (.val (.mov (.tmp 33))), none⟩])
      (.seq
       (.seq
        (.draw [⟨(some 34), (.val (.faddr 2 (.tmp 5))), none⟩,
          ⟨(some 35), (.val (.load none (.tmp 34))), none⟩,
          ⟨(some 36), (.val (.mov (.tmp 0))), none⟩,
          ⟨(some 37), (.val (.nilck (.tmp 36))), none⟩,
          ⟨(some 38), (.val (.faddr 3 (.tmp 37))), none⟩,
          ⟨(some 39), (.val (.load none (.tmp 38))), none⟩,
          ⟨(some 40), (.val (.bin .lss (.tmp 35) (.tmp 39))), none⟩] [])
        (.cond (.tmp 40)
         (.exit 0)
         .skip))
       (.seq
        (.region [⟨(some 41), (.val (.mov (.tmp 0))), none⟩,
          ⟨(some 42), (.val (.mov (.tmp 0))), none⟩,
          ⟨(some 43), (.val (.nilck (.tmp 42))), none⟩,
          ⟨(some 44), (.val (.faddr 1 (.tmp 43))), none⟩,
          ⟨(some 45), (.val (.load none (.tmp 44))), none⟩,
          ⟨(some 46), (.val (.mov (.tmp 3))), none⟩,
          ⟨(some 47), (.val (.bin .sub (.tmp 46) (.const (.int .i64 1)))), none⟩,
          ⟨(some 48), (.val (.slsl 1 (.tmp 45) none (some (.tmp 47)) none)), none⟩,
          ⟨(some 49), (.val (.nilck (.tmp 41))), none⟩,
          ⟨(some 50), (.val (.faddr 1 (.tmp 49))), none⟩,
          ⟨none, (.val (.store 1 (.tmp 50) (.tmp 48))), none⟩])
        (.seq
         (.region [⟨(some 51), (.val (.mov (.tmp 0))), none⟩,
           ⟨(some 52), (.val (.nilck (.tmp 51))), none⟩,
           ⟨(some 53), (.val (.faddr 0 (.tmp 52))), none⟩,
           ⟨(some 54), (.val (.load none (.tmp 53))), none⟩,
           ⟨(some 55), (.val (.mov (.tmp 4))), none⟩,
           ⟨(some 56), (.val (.lookup 1 .nilslice false (.tmp 54) (.tmp 55))), none⟩,
           ⟨(some 7), (.val (.mov (.tmp 56))), none⟩])
         (.seq
          (.region [⟨(some 57), (.val (.mov (.tmp 7))), none⟩,
            ⟨(some 58), (.val (.len (.tmp 57))), none⟩,
            ⟨(some 59), (.val (.bin .gtr (.tmp 58) (.const (.int .i64 1)))), none⟩])
          (.cond (.tmp 59)
           (.draw [⟨(some 60), (.val (.mov (.tmp 0))), none⟩,
             ⟨(some 61), (.val (.nilck (.tmp 60))), none⟩,
             ⟨(some 62), (.val (.faddr 0 (.tmp 61))), none⟩,
             ⟨(some 63), (.val (.load none (.tmp 62))), none⟩,
             ⟨(some 64), (.val (.mov (.tmp 4))), none⟩,
             ⟨(some 65), (.val (.mov (.tmp 7))), none⟩,
             ⟨(some 66), (.val (.mov (.tmp 7))), none⟩,
             ⟨(some 67), (.val (.len (.tmp 66))), none⟩,
             ⟨(some 68), (.val (.bin .sub (.tmp 67) (.const (.int .i64 1)))), none⟩,
             ⟨(some 69), (.val (.slsl 3 (.tmp 65) none (some (.tmp 68)) none)), none⟩,
             ⟨none, (.val (.mapupd 1 (.tmp 63) (.tmp 64) (.tmp 69))), none⟩] [(3, 9)])
           (.region [⟨(some 70), (.val (.mov (.tmp 0))), none⟩,
             ⟨(some 71), (.val (.nilck (.tmp 70))), none⟩,
             ⟨(some 72), (.val (.faddr 0 (.tmp 71))), none⟩,
             ⟨(some 73), (.val (.load none (.tmp 72))), none⟩,
             ⟨(some 74), (.val (.mov (.tmp 4))), none⟩,
             ⟨none, (.val (.delete 1 (.tmp 73) (.tmp 74))), none⟩])))))))))
   (.region [⟨(some 18), (.val (.mov (.tmp 3))), none⟩,
     ⟨(some 19), (.val (.bin .sub (.tmp 18) (.const (.int .i64 1)))), none⟩,
     ⟨(some 3), (.val (.mov (.tmp 19))), none⟩])))
def F_scope_Scopes_Close : IFun :=
 ⟨82,
 (.seq
  (.region [⟨(some 2), (.val (.mov (.const (.bool false)))), none⟩])
  (.seq
   (.seq
    (.region [⟨(some 8), (.val (.mov (.tmp 0))), none⟩,
      ⟨(some 9), (.call (.const (.func 12 [] [])) [(.tmp 8)]), none⟩,
      ⟨(some 10), (.val (.bin .lss (.tmp 9) (.const (.int .i64 2)))), none⟩])
    (.cond (.tmp 10)
     (.seq
      (.region [⟨(some 2), (.val (.mov (.const (.bool false)))), none⟩])
      .ret)
     .skip))
   (.seq
    (.seq
     (.region [⟨(some 11), (.val (.mov (.tmp 0))), none⟩,
       ⟨(some 12), (.val (.nilck (.tmp 11))), none⟩,
       ⟨(some 13), (.val (.faddr 1 (.tmp 12))), none⟩,
       ⟨(some 14), (.val (.load none (.tmp 13))), none⟩,
       ⟨(some 15), (.val (.len (.tmp 14))), none⟩,
       ⟨(some 3), (.val (.mov (.tmp 15))), none⟩])
     (.block 0
      (.loop F_scope_Scopes_Close_l0)))
    (.seq
     (.region [⟨(some 75), (.val (.mov (.tmp 0))), none⟩,
       ⟨(some 76), (.val (.nilck (.tmp 75))), none⟩,
       ⟨(some 77), (.val (.faddr 3 (.tmp 76))), none⟩,
       ⟨(some 78), (.val (.load none (.tmp 77))), none⟩,
       ⟨(some 79), (.val (.bin .sub (.tmp 78) (.const (.int .i64 1)))), none⟩,
       ⟨(some 80), (.val (.nilck (.tmp 75))), none⟩,
       ⟨(some 81), (.val (.faddr 3 (.tmp 80))), none⟩,
       ⟨none, (.val (.store 1 (.tmp 81) (.tmp 79))), none⟩])
     (.seq
      (.region [⟨(some 2), (.val (.mov (.const (.bool true)))), none⟩])
      .ret))))),
 [.tmp 2]⟩
theorem ok13 : cFun Try.prog G Try.f13 = some F_scope_Scopes_Close := by kernel_rfl

/- balustrade/balustradebase.SameInts -/
abbrev n_base_SameInts : Nat := 14
def F_base_SameInts_l0 : ICode :=
 (.seq
  (.seq
   (.region [⟨(some 11), (.val (.mov (.tmp 5))), none⟩,
     ⟨(some 12), (.val (.mov (.tmp 0))), none⟩,
     ⟨(some 13), (.val (.len (.tmp 12))), none⟩,
     ⟨(some 14), (.val (.bin .lss (.tmp 11) (.tmp 13))), none⟩])
   (.cond (.tmp 14)
    .skip
    (.exit 0)))
  (.seq
   (.block 1
    (.seq
     (.draw [⟨(some 17), (.val (.mov (.tmp 0))), none⟩,
       ⟨(some 18), (.val (.mov (.tmp 5))), none⟩,
       ⟨(some 19), (.val (.iaddr 1 (.tmp 17) (.tmp 18))), none⟩,
       ⟨(some 20), (.val (.load none (.tmp 19))), none⟩,
       ⟨(some 21), (.val (.mov (.tmp 1))), none⟩,
       ⟨(some 22), (.val (.mov (.tmp 5))), none⟩,
       ⟨(some 23), (.val (.iaddr 1 (.tmp 21) (.tmp 22))), none⟩,
       ⟨(some 24), (.val (.load none (.tmp 23))), none⟩,
       ⟨(some 25), (.val (.eq true (.prim 1) (.tmp 20) (.tmp 24))), none⟩] [])
     (.cond (.tmp 25)
      (.seq
       (.region [⟨(some 4), (.val (.mov (.const (.bool false)))), none⟩])
       .ret)
      .skip)))
   (.region [⟨(some 15), (.val (.mov (.tmp 5))), none⟩,
     ⟨(some 16), (.val (.bin .add (.tmp 15) (.const (.int .i64 1)))), none⟩,
     ⟨(some 5), (.val (.mov (.tmp 16))), none⟩])))
def F_base_SameInts : IFun :=
 ⟨26,
 (.seq
  (.region [⟨(some 4), (.val (.mov (.const (.bool false)))), none⟩])
  (.seq
   (.seq
    (.region [⟨(some 6), (.val (.mov (.tmp 0))), none⟩,
      ⟨(some 7), (.val (.len (.tmp 6))), none⟩,
      ⟨(some 8), (.val (.mov (.tmp 1))), none⟩,
      ⟨(some 9), (.val (.len (.tmp 8))), none⟩,
      ⟨(some 10), (.val (.eq true (.prim 1) (.tmp 7) (.tmp 9))), none⟩])
    (.cond (.tmp 10)
     (.seq
      (.region [⟨(some 4), (.val (.mov (.const (.bool false)))), none⟩])
      .ret)
     .skip))
   (.seq
    (.seq
     (.region [⟨(some 5), (.val (.mov (.const (.int .i64 0)))), none⟩])
     (.block 0
      (.loop F_base_SameInts_l0)))
    (.seq
     (.region [⟨(some 4), (.val (.mov (.const (.bool true)))), none⟩])
     .ret)))),
 [.tmp 4]⟩
theorem ok14 : cFun Try.prog G Try.f14 = some F_base_SameInts := by kernel_rfl

/- (*balustrade/scope.Scopes).Declare -/
abbrev n_scope_Scopes_Declare : Nat := 15
def F_scope_Scopes_Declare : IFun :=
 ⟨86,
 (.seq
  (.region [⟨(some 6), (.val (.mov (.const (.int .i64 0)))), none⟩,
    ⟨(some 7), (.val (.mov (.const (.bool false)))), none⟩])
  (.seq
   (.region [⟨(some 11), (.val (.mov (.tmp 0))), none⟩,
     ⟨(some 12), (.val (.mov (.tmp 1))), none⟩,
     ⟨(some 13), (.call (.const (.func 20 [] [])) [(.tmp 11), (.tmp 12)]), none⟩,
     ⟨(some 10), (.val (.mov (.tmp 13))), none⟩,
     ⟨(some 14), (.val (.extract (.tmp 10) 0)), none⟩,
     ⟨(some 15), (.val (.extract (.tmp 10) 1)), none⟩,
     ⟨(some 8), (.val (.alloc 55 [(.int .i64 0), (.int .i64 0), (.int .i64 0)])), none⟩,
     ⟨none, (.val (.store 3 (.tmp 8) (.tmp 14))), none⟩,
     ⟨(some 9), (.val (.mov (.tmp 15))), none⟩])
   (.seq
    (.seq
     (.draw [⟨(some 16), (.val (.mov (.tmp 0))), none⟩,
       ⟨(some 17), (.call (.const (.func 21 [] [])) [(.tmp 16)]), none⟩,
       ⟨(some 18), (.val (.un .not (.tmp 17))), none⟩,
       ⟨(some 19), (.val (.mov (.tmp 18))), none⟩,
       ⟨(some 20), (.val (.mov (.tmp 2))), (some (19, false))⟩,
       ⟨(some 21), (.val (.bin .lss (.tmp 20) (.const (.int .i64 1)))), (some (19, false))⟩,
       ⟨(some 22), (.val (.pick (.tmp 19) (.const (.bool true)) (.tmp 21))), none⟩,
       ⟨(some 23), (.val (.mov (.tmp 22))), none⟩,
       ⟨(some 24), (.val (.mov (.tmp 2))), (some (23, false))⟩,
       ⟨(some 25), (.val (.bin .gtr (.tmp 24) (.const (.int .i64 3)))), (some (23, false))⟩,
       ⟨(some 26), (.val (.pick (.tmp 23) (.const (.bool true)) (.tmp 25))), none⟩,
       ⟨(some 27), (.val (.mov (.tmp 26))), none⟩,
       ⟨(some 28), (.val (.mov (.tmp 9))), (some (27, false))⟩,
       ⟨(some 29), (.val (.mov (.tmp 28))), (some (27, false))⟩,
       ⟨(some 30), (.val (.faddr 2 (.tmp 8))), (some (29, true))⟩,
       ⟨(some 31), (.val (.load none (.tmp 30))), (some (29, true))⟩,
       ⟨(some 32), (.val (.mov (.tmp 0))), (some (29, true))⟩,
       ⟨(some 33), (.val (.nilck (.tmp 32))), (some (29, true))⟩,
       ⟨(some 34), (.val (.faddr 3 (.tmp 33))), (some (29, true))⟩,
       ⟨(some 35), (.val (.load none (.tmp 34))), (some (29, true))⟩,
       ⟨(some 36), (.val (.eq false (.prim 1) (.tmp 31) (.tmp 35))), (some (29, true))⟩,
       ⟨(some 37), (.val (.pick (.tmp 29) (.tmp 36) (.const (.bool false)))), (some (27, false))⟩,
       ⟨(some 38), (.val (.pick (.tmp 27) (.const (.bool true)) (.tmp 37))), none⟩] [])
     (.cond (.tmp 38)
      (.seq
       (.region [⟨(some 6), (.val (.mov (.const (.int .i64 0)))), none⟩,
         ⟨(some 7), (.val (.mov (.const (.bool false)))), none⟩])
       .ret)
      .skip))
    (.seq
     (.draw [⟨(some 39), (.val (.mov (.tmp 0))), none⟩,
       ⟨(some 40), (.val (.nilck (.tmp 39))), none⟩,
       ⟨(some 41), (.val (.faddr 2 (.tmp 40))), none⟩,
       ⟨(some 42), (.val (.load none (.tmp 41))), none⟩,
       ⟨(some 43), (.val (.len (.tmp 42))), none⟩,
       ⟨(some 44), (.val (.mov (.tmp 2))), none⟩,
       ⟨(some 45), (.val (.mov (.tmp 0))), none⟩,
       ⟨(some 46), (.val (.nilck (.tmp 45))), none⟩,
       ⟨(some 47), (.val (.faddr 3 (.tmp 46))), none⟩,
       ⟨(some 48), (.val (.load none (.tmp 47))), none⟩,
       ⟨(some 49), (.val (.build [(.int .i64 0), (.int .i64 0), (.int .i64 0)] [(0, 1, (.tmp 43)), (1, 1, (.tmp 44)), (2, 1, (.tmp 48))])), none⟩,
       ⟨none, (.val (.store 3 (.tmp 8) (.tmp 49))), none⟩] [])
     (.seq
      (.draw [⟨(some 50), (.val (.mov (.tmp 0))), none⟩,
        ⟨(some 51), (.val (.nilck (.tmp 50))), none⟩,
        ⟨(some 52), (.val (.faddr 0 (.tmp 51))), none⟩,
        ⟨(some 53), (.val (.load none (.tmp 52))), none⟩,
        ⟨(some 54), (.val (.mov (.tmp 1))), none⟩,
        ⟨(some 55), (.val (.mov (.tmp 0))), none⟩,
        ⟨(some 56), (.val (.nilck (.tmp 55))), none⟩,
        ⟨(some 57), (.val (.faddr 0 (.tmp 56))), none⟩,
        ⟨(some 58), (.val (.load none (.tmp 57))), none⟩,
        ⟨(some 59), (.val (.mov (.tmp 1))), none⟩,
        ⟨(some 60), (.val (.lookup 1 .nilslice false (.tmp 58) (.tmp 59))), none⟩,
        ⟨(some 61), (.val (.load (some 3) (.tmp 8))), none⟩,
        ⟨(some 62), (.val (.bslice 55 3 1 [(.int .i64 0), (.int .i64 0), (.int .i64 0)] [(0, (.tmp 61))])), none⟩,
        ⟨(some 63), (.val (.append 55 3 24 (.tmp 60) (.tmp 62))), none⟩,
        ⟨none, (.val (.mapupd 1 (.tmp 53) (.tmp 54) (.tmp 63))), none⟩] [(3, 10), (11, 10), (3, 13)])
      (.seq
       (.region [⟨(some 64), (.val (.mov (.tmp 0))), none⟩,
         ⟨(some 65), (.val (.mov (.tmp 0))), none⟩,
         ⟨(some 66), (.val (.nilck (.tmp 65))), none⟩,
         ⟨(some 67), (.val (.faddr 1 (.tmp 66))), none⟩,
         ⟨(some 68), (.val (.load none (.tmp 67))), none⟩,
         ⟨(some 69), (.val (.mov (.tmp 1))), none⟩,
         ⟨(some 70), (.val (.bslice 9 1 1 [(.str [])] [(0, (.tmp 69))])), none⟩,
         ⟨(some 71), (.val (.append 9 1 16 (.tmp 68) (.tmp 70))), none⟩,
         ⟨(some 72), (.val (.nilck (.tmp 64))), none⟩,
         ⟨(some 73), (.val (.faddr 1 (.tmp 72))), none⟩,
         ⟨none, (.val (.store 1 (.tmp 73) (.tmp 71))), none⟩])
       (.seq
        (.region [⟨(some 74), (.val (.mov (.tmp 0))), none⟩,
          ⟨(some 75), (.val (.mov (.tmp 0))), none⟩,
          ⟨(some 76), (.val (.nilck (.tmp 75))), none⟩,
          ⟨(some 77), (.val (.faddr 2 (.tmp 76))), none⟩,
          ⟨(some 78), (.val (.load none (.tmp 77))), none⟩,
          ⟨(some 79), (.val (.mov (.tmp 2))), none⟩,
          ⟨(some 80), (.val (.bslice 3 1 1 [(.int .i64 0)] [(0, (.tmp 79))])), none⟩,
          ⟨(some 81), (.val (.append 3 1 8 (.tmp 78) (.tmp 80))), none⟩,
          ⟨(some 82), (.val (.nilck (.tmp 74))), none⟩,
          ⟨(some 83), (.val (.faddr 2 (.tmp 82))), none⟩,
          ⟨none, (.val (.store 1 (.tmp 83) (.tmp 81))), none⟩])
        (.seq
         (.region [⟨(some 84), (.val (.faddr 0 (.tmp 8))), none⟩,
           ⟨(some 85), (.val (.load none (.tmp 84))), none⟩,
           ⟨(some 6), (.val (.mov (.tmp 85))), none⟩,
           ⟨(some 7), (.val (.mov (.const (.bool true)))), none⟩])
         .ret)))))))),
 [.tmp 6, .tmp 7]⟩
theorem ok15 : cFun Try.prog G Try.f15 = some F_scope_Scopes_Declare := by kernel_rfl

/- balustrade/balustraderef10.New -/
abbrev n_r10_New : Nat := 16
def F_r10_New : IFun :=
 ⟨2,
 (.seq
  (.region [⟨(some 0), (.val (.alloc 43 [.nilslice, .nilslice, (.int .i64 0)])), none⟩])
  (.seq
   (.region [⟨(some 1), (.val (.build [.nilslice, .nilslice, (.int .i64 0)] [(2, 1, (.const (.int .i64 1)))])), none⟩,
     ⟨none, (.val (.store 3 (.tmp 0) (.tmp 1))), none⟩])
   .ret)),
 [.cell 0 (some 3)]⟩
theorem ok16 : cFun Try.prog G Try.f16 = some F_r10_New := by kernel_rfl

/- balustrade/balustraderef10.Close -/
abbrev n_r10_Close : Nat := 17
def F_r10_Close_l0 : ICode :=
 (.seq
  (.seq
   (.region [⟨(some 11), (.val (.mov (.tmp 4))), none⟩,
     ⟨(some 12), (.val (.faddr 0 (.tmp 1))), none⟩,
     ⟨(some 13), (.val (.load none (.tmp 12))), none⟩,
     ⟨(some 14), (.val (.len (.tmp 13))), none⟩,
     ⟨(some 15), (.val (.bin .lss (.tmp 11) (.tmp 14))), none⟩])
   (.cond (.tmp 15)
    .skip
    (.exit 0)))
  (.seq
   (.block 1
    (.seq
     (.draw [⟨(some 18), (.val (.faddr 0 (.tmp 1))), none⟩,
       ⟨(some 19), (.val (.load none (.tmp 18))), none⟩,
       ⟨(some 20), (.val (.mov (.tmp 4))), none⟩,
       ⟨(some 21), (.val (.iaddr 4 (.tmp 19) (.tmp 20))), none⟩,
       ⟨(some 22), (.val (.faddr 1 (.tmp 21))), none⟩,
       ⟨(some 23), (.val (.load none (.tmp 22))), none⟩,
       ⟨(some 24), (.val (.faddr 2 (.tmp 1))), none⟩,
       ⟨(some 25), (.val (.load none (.tmp 24))), none⟩,
       ⟨(some 26), (.val (.bin .lss (.tmp 23) (.tmp 25))), none⟩] [])
     (.cond (.tmp 26)
      (.draw [⟨(some 27), (.val (.faddr 0 (.tmp 3))), none⟩,
        ⟨(some 28), (.val (.load none (.tmp 27))), none⟩,
        ⟨(some 29), (.val (.faddr 0 (.tmp 1))), none⟩,
        ⟨(some 30), (.val (.load none (.tmp 29))), none⟩,
        ⟨(some 31), (.val (.mov (.tmp 4))), none⟩,
        ⟨(some 32), (.val (.iaddr 4 (.tmp 30) (.tmp 31))), none⟩,
        ⟨(some 33), (.val (.load (some 4) (.tmp 32))), none⟩,
        ⟨(some 34), (.val (.bslice 52 4 1 [(.str []), (.int .i64 0), (.int .i64 0), (.int .i64 0)] [(0, (.tmp 33))])), none⟩,
        ⟨(some 35), (.val (.append 52 4 40 (.tmp 28) (.tmp 34))), none⟩,
        ⟨(some 36), (.val (.faddr 0 (.tmp 3))), none⟩,
        ⟨none, (.val (.store 1 (.tmp 36) (.tmp 35))), none⟩] [])
      .skip)))
   (.region [⟨(some 16), (.val (.mov (.tmp 4))), none⟩,
     ⟨(some 17), (.val (.bin .add (.tmp 16) (.const (.int .i64 1)))), none⟩,
     ⟨(some 4), (.val (.mov (.tmp 17))), none⟩])))
def F_r10_Close : IFun :=
 ⟨38,
 (.seq
  (.region [⟨(some 1), (.val (.box 43 (.tmp 0))), none⟩,
    ⟨(some 2), (.val (.alloc 43 [.nilslice, .nilslice, (.int .i64 0)])), none⟩])
  (.seq
   (.region [⟨(some 5), (.val (.faddr 1 (.tmp 1))), none⟩,
     ⟨(some 6), (.val (.load none (.tmp 5))), none⟩,
     ⟨(some 7), (.val (.faddr 2 (.tmp 1))), none⟩,
     ⟨(some 8), (.val (.load none (.tmp 7))), none⟩,
     ⟨(some 9), (.val (.bin .sub (.tmp 8) (.const (.int .i64 1)))), none⟩,
     ⟨(some 10), (.val (.build [.nilslice, .nilslice, (.int .i64 0)] [(1, 1, (.tmp 6)), (2, 1, (.tmp 9))])), none⟩,
     ⟨(some 3), (.val (.alloc 43 [.nilslice, .nilslice, (.int .i64 0)])), none⟩,
     ⟨none, (.val (.store 3 (.tmp 3) (.tmp 10))), none⟩])
   (.seq
    (.seq
     (.region [⟨(some 4), (.val (.mov (.const (.int .i64 0)))), none⟩])
     (.block 0
      (.loop F_r10_Close_l0)))
    (.seq
     (.region [⟨(some 37), (.val (.load (some 3) (.tmp 3))), none⟩,
       ⟨none, (.val (.store 3 (.tmp 2) (.tmp 37))), none⟩])
     .ret)))),
 [.cell 2 (some 3)]⟩
theorem ok17 : cFun Try.prog G Try.f17 = some F_r10_Close := by kernel_rfl

end Go.Proofs.Ytjegondbhejpcaa.Ev
end
section
namespace Go.Proofs.Ytjegondbhejpcaa.Ev
open Go

/- balustrade/balustraderef10.Declare -/
abbrev n_r10_Declare : Nat := 18
def F_r10_Declare : IFun :=
 ⟨61,
 (.seq
  (.region [⟨(some 3), (.val (.box 43 (.tmp 0))), none⟩,
    ⟨(some 6), (.val (.alloc 43 [.nilslice, .nilslice, (.int .i64 0)])), none⟩,
    ⟨(some 7), (.val (.mov (.const (.bool false)))), none⟩])
  (.seq
   (.region [⟨(some 11), (.val (.load (some 3) (.tmp 3))), none⟩,
     ⟨(some 12), (.val (.mov (.tmp 1))), none⟩,
     ⟨(some 13), (.call (.const (.func 19 [] [])) [(.tmp 11), (.tmp 12)]), none⟩,
     ⟨(some 8), (.val (.mov (.tmp 13))), none⟩])
   (.seq
    (.seq
     (.draw [⟨(some 14), (.val (.mov (.tmp 2))), none⟩,
       ⟨(some 15), (.val (.bin .lss (.tmp 14) (.const (.int .i64 1)))), none⟩,
       ⟨(some 16), (.val (.mov (.tmp 15))), none⟩,
       ⟨(some 17), (.val (.mov (.tmp 2))), (some (16, false))⟩,
       ⟨(some 18), (.val (.bin .gtr (.tmp 17) (.const (.int .i64 3)))), (some (16, false))⟩,
       ⟨(some 19), (.val (.pick (.tmp 16) (.const (.bool true)) (.tmp 18))), none⟩,
       ⟨(some 20), (.val (.mov (.tmp 19))), none⟩,
       ⟨(some 21), (.val (.mov (.tmp 8))), (some (20, false))⟩,
       ⟨(some 22), (.val (.bin .geq (.tmp 21) (.const (.int .i64 0)))), (some (20, false))⟩,
       ⟨(some 23), (.val (.mov (.tmp 22))), (some (20, false))⟩,
       ⟨(some 24), (.val (.faddr 0 (.tmp 3))), (some (23, true))⟩,
       ⟨(some 25), (.val (.load none (.tmp 24))), (some (23, true))⟩,
       ⟨(some 26), (.val (.mov (.tmp 8))), (some (23, true))⟩,
       ⟨(some 27), (.val (.iaddr 4 (.tmp 25) (.tmp 26))), (some (23, true))⟩,
       ⟨(some 28), (.val (.faddr 1 (.tmp 27))), (some (23, true))⟩,
       ⟨(some 29), (.val (.load none (.tmp 28))), (some (23, true))⟩,
       ⟨(some 30), (.val (.faddr 2 (.tmp 3))), (some (23, true))⟩,
       ⟨(some 31), (.val (.load none (.tmp 30))), (some (23, true))⟩,
       ⟨(some 32), (.val (.eq false (.prim 1) (.tmp 29) (.tmp 31))), (some (23, true))⟩,
       ⟨(some 33), (.val (.pick (.tmp 23) (.tmp 32) (.const (.bool false)))), (some (20, false))⟩,
       ⟨(some 34), (.val (.pick (.tmp 20) (.const (.bool true)) (.tmp 33))), none⟩] [])
     (.cond (.tmp 34)
      (.seq
       (.region [⟨(some 35), (.val (.load (some 3) (.tmp 3))), none⟩,
         ⟨none, (.val (.store 3 (.tmp 6) (.tmp 35))), none⟩,
         ⟨(some 7), (.val (.mov (.const (.bool false)))), none⟩])
       .ret)
      .skip))
    (.seq
     (.region [⟨(some 36), (.val (.bslice 52 4 0 [(.str []), (.int .i64 0), (.int .i64 0), (.int .i64 0)] [])), none⟩,
       ⟨(some 37), (.val (.faddr 0 (.tmp 3))), none⟩,
       ⟨(some 38), (.val (.load none (.tmp 37))), none⟩,
       ⟨(some 39), (.val (.append 52 4 40 (.tmp 36) (.tmp 38))), none⟩,
       ⟨(some 9), (.val (.mov (.tmp 39))), none⟩])
     (.seq
      (.region [⟨(some 40), (.val (.bslice 3 1 0 [(.int .i64 0)] [])), none⟩,
        ⟨(some 41), (.val (.faddr 1 (.tmp 3))), none⟩,
        ⟨(some 42), (.val (.load none (.tmp 41))), none⟩,
        ⟨(some 43), (.val (.append 3 1 8 (.tmp 40) (.tmp 42))), none⟩,
        ⟨(some 10), (.val (.mov (.tmp 43))), none⟩])
      (.seq
       (.draw [⟨(some 44), (.val (.mov (.tmp 9))), none⟩,
         ⟨(some 45), (.val (.mov (.tmp 1))), none⟩,
         ⟨(some 46), (.val (.faddr 2 (.tmp 3))), none⟩,
         ⟨(some 47), (.val (.load none (.tmp 46))), none⟩,
         ⟨(some 48), (.val (.mov (.tmp 10))), none⟩,
         ⟨(some 49), (.val (.len (.tmp 48))), none⟩,
         ⟨(some 50), (.val (.mov (.tmp 2))), none⟩,
         ⟨(some 51), (.val (.build [(.str []), (.int .i64 0), (.int .i64 0), (.int .i64 0)] [(0, 1, (.tmp 45)), (1, 1, (.tmp 47)), (2, 1, (.tmp 49)), (3, 1, (.tmp 50))])), none⟩,
         ⟨(some 52), (.val (.bslice 52 4 1 [(.str []), (.int .i64 0), (.int .i64 0), (.int .i64 0)] [(0, (.tmp 51))])), none⟩,
         ⟨(some 53), (.val (.append 52 4 40 (.tmp 44) (.tmp 52))), none⟩,
         ⟨(some 54), (.val (.mov (.tmp 10))), none⟩,
         ⟨(some 55), (.val (.mov (.tmp 2))), none⟩,
         ⟨(some 56), (.val (.bslice 3 1 1 [(.int .i64 0)] [(0, (.tmp 55))])), none⟩,
         ⟨(some 57), (.val (.append 3 1 8 (.tmp 54) (.tmp 56))), none⟩,
         ⟨(some 58), (.val (.faddr 2 (.tmp 3))), none⟩,
         ⟨(some 59), (.val (.load none (.tmp 58))), none⟩,
         ⟨(some 60), (.val (.build [.nilslice, .nilslice, (.int .i64 0)] [(0, 1, (.tmp 53)), (1, 1, (.tmp 57)), (2, 1, (.tmp 59))])), none⟩,
         ⟨none, (.val (.store 3 (.tmp 6) (.tmp 60))), none⟩,
         ⟨(some 7), (.val (.mov (.const (.bool true)))), none⟩] [(15, 9), (15, 13)])
       .ret)))))),
 [.cell 6 (some 3), .tmp 7]⟩
theorem ok18 : cFun Try.prog G Try.f18 = some F_r10_Declare := by kernel_rfl

/- balustrade/balustraderef10.Find -/
abbrev n_r10_Find : Nat := 19
def F_r10_Find_l0 : ICode :=
 (.seq
  (.seq
   (.region [⟨(some 7), (.val (.mov (.tmp 6))), none⟩,
     ⟨(some 8), (.val (.faddr 0 (.tmp 2))), none⟩,
     ⟨(some 9), (.val (.load none (.tmp 8))), none⟩,
     ⟨(some 10), (.val (.len (.tmp 9))), none⟩,
     ⟨(some 11), (.val (.bin .lss (.tmp 7) (.tmp 10))), none⟩])
   (.cond (.tmp 11)
    .skip
    (.exit 0)))
  (.seq
   (.block 1
    (.seq
     (.region [⟨(some 14), (.val (.faddr 0 (.tmp 2))), none⟩,
       ⟨(some 15), (.val (.load none (.tmp 14))), none⟩,
       ⟨(some 16), (.val (.mov (.tmp 6))), none⟩,
       ⟨(some 17), (.val (.iaddr 4 (.tmp 15) (.tmp 16))), none⟩,
       ⟨(some 18), (.val (.faddr 0 (.tmp 17))), none⟩,
       ⟨(some 19), (.val (.load none (.tmp 18))), none⟩,
       ⟨(some 20), (.val (.mov (.tmp 1))), none⟩,
       ⟨(some 21), (.val (.eq false (.prim 2) (.tmp 19) (.tmp 20))), none⟩])
     (.cond (.tmp 21)
      (.region [⟨(some 22), (.val (.mov (.tmp 6))), none⟩,
        ⟨(some 5), (.val (.mov (.tmp 22))), none⟩])
      .skip)))
   (.region [⟨(some 12), (.val (.mov (.tmp 6))), none⟩,
     ⟨(some 13), (.val (.bin .add (.tmp 12) (.const (.int .i64 1)))), none⟩,
     ⟨(some 6), (.val (.mov (.tmp 13))), none⟩])))
def F_r10_Find : IFun :=
 ⟨24,
 (.seq
  (.region [⟨(some 2), (.val (.box 43 (.tmp 0))), none⟩,
    ⟨(some 4), (.val (.mov (.const (.int .i64 0)))), none⟩])
  (.seq
   (.region [⟨(some 5), (.val (.mov (.const (.int .i64 (-1))))), none⟩])
   (.seq
    (.seq
     (.region [⟨(some 6), (.val (.mov (.const (.int .i64 0)))), none⟩])
     (.block 0
      (.loop F_r10_Find_l0)))
    (.seq
     (.region [⟨(some 23), (.val (.mov (.tmp 5))), none⟩,
       ⟨(some 4), (.val (.mov (.tmp 23))), none⟩])
     .ret)))),
 [.tmp 4]⟩
theorem ok19 : cFun Try.prog G Try.f19 = some F_r10_Find := by kernel_rfl

/- (*balustrade/scope.Scopes).last -/
abbrev n_scope_Scopes_last : Nat := 20
def F_scope_Scopes_last : IFun :=
 ⟨27,
 (.seq
  (.region [⟨(some 4), (.val (.alloc 55 [(.int .i64 0), (.int .i64 0), (.int .i64 0)])), none⟩,
    ⟨(some 5), (.val (.mov (.const (.bool false)))), none⟩])
  (.seq
   (.seq
    (.region [⟨(some 7), (.val (.mov (.tmp 0))), none⟩,
      ⟨(some 8), (.call (.const (.func 21 [] [])) [(.tmp 7)]), none⟩,
      ⟨(some 9), (.val (.un .not (.tmp 8))), none⟩])
    (.cond (.tmp 9)
     (.seq
      (.region [⟨(some 10), (.val (.build [(.int .i64 0), (.int .i64 0), (.int .i64 0)] [])), none⟩,
        ⟨none, (.val (.store 3 (.tmp 4) (.tmp 10))), none⟩,
        ⟨(some 5), (.val (.mov (.const (.bool false)))), none⟩])
      .ret)
     .skip))
   (.seq
    (.region [⟨(some 11), (.val (.mov (.tmp 0))), none⟩,
      ⟨(some 12), (.val (.nilck (.tmp 11))), none⟩,
      ⟨(some 13), (.val (.faddr 0 (.tmp 12))), none⟩,
      ⟨(some 14), (.val (.load none (.tmp 13))), none⟩,
      ⟨(some 15), (.val (.mov (.tmp 1))), none⟩,
      ⟨(some 16), (.val (.lookup 1 .nilslice false (.tmp 14) (.tmp 15))), none⟩,
      ⟨(some 6), (.val (.mov (.tmp 16))), none⟩])
    (.seq
     (.seq
      (.region [⟨(some 17), (.val (.mov (.tmp 6))), none⟩,
        ⟨(some 18), (.val (.len (.tmp 17))), none⟩,
        ⟨(some 19), (.val (.eq false (.prim 1) (.tmp 18) (.const (.int .i64 0)))), none⟩])
      (.cond (.tmp 19)
       (.seq
        (.region [⟨(some 20), (.val (.build [(.int .i64 0), (.int .i64 0), (.int .i64 0)] [])), none⟩,
          ⟨none, (.val (.store 3 (.tmp 4) (.tmp 20))), none⟩,
          ⟨(some 5), (.val (.mov (.const (.bool false)))), none⟩])
        .ret)
       .skip))
     (.seq
      (.region [⟨(some 21), (.val (.mov (.tmp 6))), none⟩,
        ⟨(some 22), (.val (.mov (.tmp 6))), none⟩,
        ⟨(some 23), (.val (.len (.tmp 22))), none⟩,
        ⟨(some 24), (.val (.bin .sub (.tmp 23) (.const (.int .i64 1)))), none⟩,
        ⟨(some 25), (.val (.iaddr 3 (.tmp 21) (.tmp 24))), none⟩,
        ⟨(some 26), (.val (.load (some 3) (.tmp 25))), none⟩,
        ⟨none, (.val (.store 3 (.tmp 4) (.tmp 26))), none⟩,
        ⟨(some 5), (.val (.mov (.const (.bool true)))), none⟩])
      .ret))))),
 [.cell 4 (some 3), .tmp 5]⟩
theorem ok20 : cFun Try.prog G Try.f20 = some F_scope_Scopes_last := by kernel_rfl

/- (*balustrade/scope.Scopes).made -/
abbrev n_scope_Scopes_made : Nat := 21
def F_scope_Scopes_made : IFun :=
 ⟨12,
 (.seq
  (.region [⟨(some 2), (.val (.mov (.const (.bool false)))), none⟩])
  (.seq
   (.region [⟨(some 3), (.val (.mov (.tmp 0))), none⟩,
     ⟨(some 4), (.val (.eq true (.prim 3) (.tmp 3) (.const .nilptr))), none⟩,
     ⟨(some 5), (.val (.mov (.tmp 4))), none⟩,
     ⟨(some 6), (.val (.mov (.tmp 0))), (some (5, true))⟩,
     ⟨(some 7), (.val (.nilck (.tmp 6))), (some (5, true))⟩,
     ⟨(some 8), (.val (.faddr 3 (.tmp 7))), (some (5, true))⟩,
     ⟨(some 9), (.val (.load none (.tmp 8))), (some (5, true))⟩,
     ⟨(some 10), (.val (.bin .gtr (.tmp 9) (.const (.int .i64 0)))), (some (5, true))⟩,
     ⟨(some 11), (.val (.pick (.tmp 5) (.tmp 10) (.const (.bool false)))), none⟩,
     ⟨(some 2), (.val (.mov (.tmp 11))), none⟩])
   .ret)),
 [.tmp 2]⟩
theorem ok21 : cFun Try.prog G Try.f21 = some F_scope_Scopes_made := by kernel_rfl

end Go.Proofs.Ytjegondbhejpcaa.Ev
end
section
namespace Go.Proofs.Ytjegondbhejpcaa.Ev
open Go

/-- A table, in order. -/
inductive Bt where
  | leaf
  | node (k : Nat) (e : Ent) (l r : Bt)
def Bt.find : Bt → Nat → Option Ent
  | .leaf, _ => none
  | .node k e l r, f => bif f.beq k then some e else bif f.blt k then l.find f else r.find f
def Bt.All (Q : Nat → Ent → Prop) : Bt → Prop
  | .leaf => True
  | .node k e l r => Q k e ∧ l.All Q ∧ r.All Q
theorem Bt.find_of {Q : Nat → Ent → Prop} : ∀ {t : Bt}, t.All Q → ∀ f e, t.find f = some e → Q f e
  | .leaf, _, f, e, h => by simp [Bt.find] at h
  | .node k x l r, ⟨h0, hl, hr⟩, f, e, h => by
    simp only [Bt.find] at h
    cases hk : f.beq k with
    | true =>
      rw [of_beq hk]
      simp only [hk, cond_true, Option.some.injEq] at h
      subst h; exact h0
    | false =>
      simp only [hk, cond_false] at h
      cases hb : f.blt k <;> simp only [hb, cond_true, cond_false] at h
      · exact Bt.find_of hr f e h
      · exact Bt.find_of hl f e h

/-- math/bits.Add64 -/
def xAdd64 : List EV → Option EV
  | [.int .u64 (.ofNat x), .int .u64 (.ofNat y), .int .u64 (.ofNat c)] => bif c.ble 1 then some (.tuple [.int .u64 (.ofNat ((x + y + c) % 18446744073709551616)), .int .u64 (.ofNat ((x + y + c) / 18446744073709551616))]) else none
  | _ => none
/-- internal/bytealg.CountString, IndexByteString -/
def xCount : List EV → Option EV
  | [.str s, .int .u8 c] => some (.int .i64 (Go.Lib.countByte s c.toNat.toUInt8))
  | _ => none
def xIndexByte : List EV → Option EV
  | [.str s, .int .u8 c] => some (.int .i64 (Go.Lib.indexByte s c.toNat.toUInt8))
  | _ => none
/-- The chapter's examples: a closed call that tells true. -/
def isTrue : Option Fin → Bool
  | some (.ret (.bool true) _) => true
  | _ => false
theorem isTrue_of {r : Option Fin} (h : isTrue r = true) : ∃ m, r = some (.ret (.bool true) m) := by
  unfold isTrue at h
  split at h
  · exact ⟨_, rfl⟩
  · cases h
def xTrue : List EV → Option EV
  | [] => some (.bool true)
  | _ => none
theorem works_ok {P : Program} {G : List Nat} (hmix : P.follows .mixedOrders = true) {T : Nat → Option Ent} (hT : ∀ f e, T f = some e → EntOk P G f e) {f : Nat} {F : IFun} (hf : T f = some (.go F)) {n0 : Nat} (hG : ∀ g, G.contains g = true → g < n0)
    {k : Nat} (h : isTrue (evFun T k f [] (mem0 n0)) = true) : EntOk P G f (.pure xTrue) := by
  refine pure_ok hmix hT hf hG fun args v hv => ?_
  unfold xTrue at hv
  split at hv
  · cases hv
    obtain ⟨m, hm⟩ := isTrue_of h
    exact ⟨rfl, rfl, k, m, hm⟩
  · cases hv
theorem run_true {T : Nat → Option Ent} {f : Nat} (hf : T f = some (.pure xTrue)) {m : Mem} : run T f [] m = some (.ret (.bool true) m) := by rw [run_pure hf]; rfl
end Go.Proofs.Ytjegondbhejpcaa.Ev
end
section
namespace Go.Proofs.Ytjegondbhejpcaa.Ev
open Go
theorem mix : Try.prog.follows .mixedOrders = true := by kernel_rfl
theorem ltG : ∀ g, G.contains g = true → g < 0 := fun g h => by simp [G] at h; try omega
def tree : Bt :=
  (.node 13 (.go F_scope_Scopes_Close) (.node 8 (.go F_l10_play) (.node 6 (.go F_l10_works) (.node 5 (.go F_l10_ScopeTells) (.node 3 (.go F_l10_ScopeBack) .leaf .leaf) .leaf) (.node 7 (.go F_scope_New) .leaf .leaf)) (.node 11 (.go F_scope_Scopes_Open) (.node 10 (.go F_scope_Scopes_Kinds) (.node 9 (.go F_scope_Scopes_Find) .leaf .leaf) .leaf) (.node 12 (.go F_scope_Scopes_Depth) .leaf .leaf))) (.node 18 (.go F_r10_Declare) (.node 16 (.go F_r10_New) (.node 15 (.go F_scope_Scopes_Declare) (.node 14 (.go F_base_SameInts) .leaf .leaf) .leaf) (.node 17 (.go F_r10_Close) .leaf .leaf)) (.node 20 (.go F_scope_Scopes_last) (.node 19 (.go F_r10_Find) .leaf .leaf) (.node 21 (.go F_scope_Scopes_made) .leaf .leaf))))
def T0 : Nat → Option Ent := tree.find
theorem okT0 : ∀ f e, T0 f = some e → EntOk Try.prog G f e := Bt.find_of (t := tree)
  ⟨⟨_, Try.func13, ok13⟩, ⟨⟨_, Try.func8, ok8⟩, ⟨⟨_, Try.func6, ok6⟩, ⟨⟨_, Try.func5, ok5⟩, ⟨⟨_, Try.func3, ok3⟩, trivial, trivial⟩, trivial⟩, ⟨⟨_, Try.func7, ok7⟩, trivial, trivial⟩⟩, ⟨⟨_, Try.func11, ok11⟩, ⟨⟨_, Try.func10, ok10⟩, ⟨⟨_, Try.func9, ok9⟩, trivial, trivial⟩, trivial⟩, ⟨⟨_, Try.func12, ok12⟩, trivial, trivial⟩⟩⟩, ⟨⟨_, Try.func18, ok18⟩, ⟨⟨_, Try.func16, ok16⟩, ⟨⟨_, Try.func15, ok15⟩, ⟨⟨_, Try.func14, ok14⟩, trivial, trivial⟩, trivial⟩, ⟨⟨_, Try.func17, ok17⟩, trivial, trivial⟩⟩, ⟨⟨_, Try.func20, ok20⟩, ⟨⟨_, Try.func19, ok19⟩, trivial, trivial⟩, ⟨⟨_, Try.func21, ok21⟩, trivial, trivial⟩⟩⟩⟩
theorem works6 : isTrue (evFun T0 5000 6 [] (mem0 0)) = true := by kernel_rfl
def T1 : Nat → Option Ent := up T0 6 (.pure xTrue)
theorem okT1 : ∀ f e, T1 f = some e → EntOk Try.prog G f e := up_ok okT0 (works_ok mix okT0 (F := F_l10_works) rfl ltG works6)
def T : Nat → Option Ent := T1
theorem okT : ∀ f e, T f = some e → EntOk Try.prog G f e := okT1
end Go.Proofs.Ytjegondbhejpcaa.Ev
end
section
namespace Go.Proofs.Ytjegondbhejpcaa.Ev
open Go
def ExtFlat (g : List EV → Option EV) : Prop := ∀ args v, g args = some v → flats args = true ∧ Flat v = true
def EntOkS : Ent → Prop
  | .go F => okFun F = true
  | .ext g | .pure g => ExtFlat g
  | .spec _ => False
theorem entS_of {T : Nat → Option Ent} (h : ∀ f e, T f = some e → EntOkS e) : ∀ f e, T f = some e → EntS T f e := by
  intro f e he
  have := h f e he
  cases e with
  | go F => exact ⟨he, this⟩
  | ext g => exact ext_ent he this
  | pure g => exact pure_true_ent he this
  | spec g => exact this.elim
theorem xTrue_flat : ExtFlat xTrue := by
  intro args v h
  unfold xTrue at h
  split at h
  · cases h; exact ⟨rfl, rfl⟩
  · cases h
theorem up_okS {T : Nat → Option Ent} (h : ∀ f e, T f = some e → EntOkS e) {g : Nat} : ∀ f e, up T g (.pure xTrue) f = some e → EntOkS e := by
  intro f e he
  unfold up at he
  cases hb : f.beq g <;> simp only [hb, cond_true, cond_false] at he
  · exact h f e he
  · cases he; exact xTrue_flat
theorem up_look {T0 T : Nat → Option Ent} (h : ∀ f e, T f = some e → EntS T0 f e) {f : Nat} {F : IFun} (hT : T0 f = some (.go F)) (hok : okFun F = true) : ∀ g e, up T f (.spec (lookT T F)) g = some e → EntS T0 g e := by
  intro g e he
  unfold up at he
  cases hb : g.beq f <;> simp only [hb, cond_true, cond_false] at he
  · exact h g e he
  · cases he; rw [of_beq hb]; exact look_ent h hT hok
def memB (f : Nat) : List Nat → Bool
  | [] => false
  | a :: l => bif a.beq f then true else memB f l
end Go.Proofs.Ytjegondbhejpcaa.Ev
end
section
namespace Go.Proofs.Ytjegondbhejpcaa.Ev
open Go
theorem entT0 : ∀ f e, T0 f = some e → EntOkS e := Bt.find_of (t := tree)
  ⟨(show okFun _ = true by kernel_rfl), ⟨(show okFun _ = true by kernel_rfl), ⟨(show okFun _ = true by kernel_rfl), ⟨(show okFun _ = true by kernel_rfl), ⟨(show okFun _ = true by kernel_rfl), trivial, trivial⟩, trivial⟩, ⟨(show okFun _ = true by kernel_rfl), trivial, trivial⟩⟩, ⟨(show okFun _ = true by kernel_rfl), ⟨(show okFun _ = true by kernel_rfl), ⟨(show okFun _ = true by kernel_rfl), trivial, trivial⟩, trivial⟩, ⟨(show okFun _ = true by kernel_rfl), trivial, trivial⟩⟩⟩, ⟨(show okFun _ = true by kernel_rfl), ⟨(show okFun _ = true by kernel_rfl), ⟨(show okFun _ = true by kernel_rfl), ⟨(show okFun _ = true by kernel_rfl), trivial, trivial⟩, trivial⟩, ⟨(show okFun _ = true by kernel_rfl), trivial, trivial⟩⟩, ⟨(show okFun _ = true by kernel_rfl), ⟨(show okFun _ = true by kernel_rfl), trivial, trivial⟩, ⟨(show okFun _ = true by kernel_rfl), trivial, trivial⟩⟩⟩⟩
theorem entT1 : ∀ f e, T1 f = some e → EntOkS e := up_okS entT0
theorem entS : ∀ f e, T f = some e → EntS T f e := entS_of (entT1)
def K (f : Nat) : Nat := bif memB f [3, 5, 14, 19] then 1 else 0
abbrev B0 : Nat → Option Ent := T
theorem entB0 : ∀ f e, B0 f = some e → EntS T f e := entS
noncomputable def B1 : Nat → Option Ent := up B0 21 (.spec (lookT B0 F_scope_Scopes_made))
theorem entB1 : ∀ f e, B1 f = some e → EntS T f e := up_look entB0 (F := F_scope_Scopes_made) rfl (by kernel_rfl)
noncomputable def B2 : Nat → Option Ent := up B1 12 (.spec (lookT B1 F_scope_Scopes_Depth))
theorem entB2 : ∀ f e, B2 f = some e → EntS T f e := up_look entB1 (F := F_scope_Scopes_Depth) rfl (by kernel_rfl)
noncomputable def B3 : Nat → Option Ent := up B2 20 (.spec (lookT B2 F_scope_Scopes_last))
theorem entB3 : ∀ f e, B3 f = some e → EntS T f e := up_look entB2 (F := F_scope_Scopes_last) rfl (by kernel_rfl)
noncomputable def B4 : Nat → Option Ent := up B3 9 (.spec (lookT B3 F_scope_Scopes_Find))
theorem entB4 : ∀ f e, B4 f = some e → EntS T f e := up_look entB3 (F := F_scope_Scopes_Find) rfl (by kernel_rfl)
noncomputable abbrev B : Nat → Option Ent := B4
theorem entB : ∀ f e, B f = some e → EntS T f e := entB4
noncomputable abbrev U : Nat → Option Ent := UT B K
instance : HasF B0 3 F_l10_ScopeBack := ⟨rfl⟩
instance : HasF B1 3 F_l10_ScopeBack := ⟨rfl⟩
instance : HasF B2 3 F_l10_ScopeBack := ⟨rfl⟩
instance : HasF B3 3 F_l10_ScopeBack := ⟨rfl⟩
instance : HasF B4 3 F_l10_ScopeBack := ⟨rfl⟩
instance : Sort0 K 3 := ⟨rfl⟩
instance : HasF B0 5 F_l10_ScopeTells := ⟨rfl⟩
instance : HasF B1 5 F_l10_ScopeTells := ⟨rfl⟩
instance : HasF B2 5 F_l10_ScopeTells := ⟨rfl⟩
instance : HasF B3 5 F_l10_ScopeTells := ⟨rfl⟩
instance : HasF B4 5 F_l10_ScopeTells := ⟨rfl⟩
instance : Sort0 K 5 := ⟨rfl⟩
instance : HasF B0 7 F_scope_New := ⟨rfl⟩
instance : HasF B1 7 F_scope_New := ⟨rfl⟩
instance : HasF B2 7 F_scope_New := ⟨rfl⟩
instance : HasF B3 7 F_scope_New := ⟨rfl⟩
instance : HasF B4 7 F_scope_New := ⟨rfl⟩
instance : Sort2 K 7 := ⟨rfl⟩
instance : HasF B0 8 F_l10_play := ⟨rfl⟩
instance : HasF B1 8 F_l10_play := ⟨rfl⟩
instance : HasF B2 8 F_l10_play := ⟨rfl⟩
instance : HasF B3 8 F_l10_play := ⟨rfl⟩
instance : HasF B4 8 F_l10_play := ⟨rfl⟩
instance : Sort2 K 8 := ⟨rfl⟩
instance : HasF B0 9 F_scope_Scopes_Find := ⟨rfl⟩
instance : HasF B1 9 F_scope_Scopes_Find := ⟨rfl⟩
instance : HasF B2 9 F_scope_Scopes_Find := ⟨rfl⟩
instance : HasF B3 9 F_scope_Scopes_Find := ⟨rfl⟩
instance : Sort2 K 9 := ⟨rfl⟩
instance : HasF B0 10 F_scope_Scopes_Kinds := ⟨rfl⟩
instance : HasF B1 10 F_scope_Scopes_Kinds := ⟨rfl⟩
instance : HasF B2 10 F_scope_Scopes_Kinds := ⟨rfl⟩
instance : HasF B3 10 F_scope_Scopes_Kinds := ⟨rfl⟩
instance : HasF B4 10 F_scope_Scopes_Kinds := ⟨rfl⟩
instance : Sort2 K 10 := ⟨rfl⟩
instance : HasF B0 11 F_scope_Scopes_Open := ⟨rfl⟩
instance : HasF B1 11 F_scope_Scopes_Open := ⟨rfl⟩
instance : HasF B2 11 F_scope_Scopes_Open := ⟨rfl⟩
instance : HasF B3 11 F_scope_Scopes_Open := ⟨rfl⟩
instance : HasF B4 11 F_scope_Scopes_Open := ⟨rfl⟩
instance : Sort2 K 11 := ⟨rfl⟩
instance : HasF B0 12 F_scope_Scopes_Depth := ⟨rfl⟩
instance : HasF B1 12 F_scope_Scopes_Depth := ⟨rfl⟩
instance : Sort2 K 12 := ⟨rfl⟩
instance : HasF B0 13 F_scope_Scopes_Close := ⟨rfl⟩
instance : HasF B1 13 F_scope_Scopes_Close := ⟨rfl⟩
instance : HasF B2 13 F_scope_Scopes_Close := ⟨rfl⟩
instance : HasF B3 13 F_scope_Scopes_Close := ⟨rfl⟩
instance : HasF B4 13 F_scope_Scopes_Close := ⟨rfl⟩
instance : Sort2 K 13 := ⟨rfl⟩
instance : HasF B0 14 F_base_SameInts := ⟨rfl⟩
instance : HasF B1 14 F_base_SameInts := ⟨rfl⟩
instance : HasF B2 14 F_base_SameInts := ⟨rfl⟩
instance : HasF B3 14 F_base_SameInts := ⟨rfl⟩
instance : HasF B4 14 F_base_SameInts := ⟨rfl⟩
instance : Sort0 K 14 := ⟨rfl⟩
instance : HasF B0 15 F_scope_Scopes_Declare := ⟨rfl⟩
instance : HasF B1 15 F_scope_Scopes_Declare := ⟨rfl⟩
instance : HasF B2 15 F_scope_Scopes_Declare := ⟨rfl⟩
instance : HasF B3 15 F_scope_Scopes_Declare := ⟨rfl⟩
instance : HasF B4 15 F_scope_Scopes_Declare := ⟨rfl⟩
instance : Sort2 K 15 := ⟨rfl⟩
instance : HasF B0 16 F_r10_New := ⟨rfl⟩
instance : HasF B1 16 F_r10_New := ⟨rfl⟩
instance : HasF B2 16 F_r10_New := ⟨rfl⟩
instance : HasF B3 16 F_r10_New := ⟨rfl⟩
instance : HasF B4 16 F_r10_New := ⟨rfl⟩
instance : Sort2 K 16 := ⟨rfl⟩
instance : HasF B0 17 F_r10_Close := ⟨rfl⟩
instance : HasF B1 17 F_r10_Close := ⟨rfl⟩
instance : HasF B2 17 F_r10_Close := ⟨rfl⟩
instance : HasF B3 17 F_r10_Close := ⟨rfl⟩
instance : HasF B4 17 F_r10_Close := ⟨rfl⟩
instance : Sort2 K 17 := ⟨rfl⟩
instance : HasF B0 18 F_r10_Declare := ⟨rfl⟩
instance : HasF B1 18 F_r10_Declare := ⟨rfl⟩
instance : HasF B2 18 F_r10_Declare := ⟨rfl⟩
instance : HasF B3 18 F_r10_Declare := ⟨rfl⟩
instance : HasF B4 18 F_r10_Declare := ⟨rfl⟩
instance : Sort2 K 18 := ⟨rfl⟩
instance : HasF B0 19 F_r10_Find := ⟨rfl⟩
instance : HasF B1 19 F_r10_Find := ⟨rfl⟩
instance : HasF B2 19 F_r10_Find := ⟨rfl⟩
instance : HasF B3 19 F_r10_Find := ⟨rfl⟩
instance : HasF B4 19 F_r10_Find := ⟨rfl⟩
instance : Sort0 K 19 := ⟨rfl⟩
instance : HasF B0 20 F_scope_Scopes_last := ⟨rfl⟩
instance : HasF B1 20 F_scope_Scopes_last := ⟨rfl⟩
instance : HasF B2 20 F_scope_Scopes_last := ⟨rfl⟩
instance : Sort2 K 20 := ⟨rfl⟩
instance : HasF B0 21 F_scope_Scopes_made := ⟨rfl⟩
instance : Sort2 K 21 := ⟨rfl⟩
theorem look_scope_Scopes_made {args : List EV} {m : Mem} : run U 21 args m = lookT B0 F_scope_Scopes_made args m := run_p3 (h := ⟨rfl⟩) rfl
theorem look2_scope_Scopes_made {args : List EV} {m : Mem} : run B2 21 args m = lookT B0 F_scope_Scopes_made args m := run_spec rfl
theorem look_scope_Scopes_Depth {args : List EV} {m : Mem} : run U 12 args m = lookT B1 F_scope_Scopes_Depth args m := run_p3 (h := ⟨rfl⟩) rfl
theorem look_scope_Scopes_last {args : List EV} {m : Mem} : run U 20 args m = lookT B2 F_scope_Scopes_last args m := run_p3 (h := ⟨rfl⟩) rfl
theorem look3_scope_Scopes_last {args : List EV} {m : Mem} : run B3 20 args m = lookT B2 F_scope_Scopes_last args m := run_spec rfl
theorem look_scope_Scopes_Find {args : List EV} {m : Mem} : run U 9 args m = lookT B3 F_scope_Scopes_Find args m := run_p3 (h := ⟨rfl⟩) rfl
theorem run_works6 {m : Mem} : run U 6 [] m = some (.ret (.bool true) m) := run_true (f := 6) (by unfold U UT PT; rfl)
end Go.Proofs.Ytjegondbhejpcaa.Ev
end
section
namespace Go.Proofs.Ytjegondbhejpcaa.Ev
open Go
set_option linter.unusedSimpArgs false
set_option linter.unusedVariables false
set_option maxRecDepth 10000
set_option maxHeartbeats 4000000
/-! ### Entries -/
def ents (L : List (Txt × EV)) : List (EV × EV) := L.map fun p => (.str p.1, p.2)
theorem same_str {a b : Txt} : EV.same (.str a) (.str b) = decide (a = b) := by
  by_cases h : a = b
  · subst h; rw [same_refl _ rfl]; simp
  · cases hs : EV.same (.str a) (.str b) with
    | false => simp [h]
    | true => have := same_eq hs; cases this; exact absurd rfl h
def getL (s : Txt) : List (Txt × EV) → Option EV
  | [] => none
  | (a, v) :: r => if s = a then some v else getL s r
def setL (s : Txt) (v : EV) : List (Txt × EV) → List (Txt × EV)
  | [] => [(s, v)]
  | (a, w) :: r => if s = a then (s, v) :: r else (a, w) :: setL s v r
def delL (s : Txt) : List (Txt × EV) → List (Txt × EV)
  | [] => []
  | (a, w) :: r => if s = a then r else (a, w) :: delL s r
theorem find_ents {s : Txt} : ∀ L : List (Txt × EV), find (.str s) (ents L) = getL s L
  | [] => rfl
  | (a, v) :: r => by
    show (bif EV.same (.str s) (.str a) then some v else find (.str s) (ents r)) = _
    rw [same_str, find_ents r]
    by_cases h : s = a <;> simp [h, getL]
theorem update_ents {s : Txt} {v : EV} : ∀ L : List (Txt × EV), update (.str s) v (ents L) = ents (setL s v L)
  | [] => rfl
  | (a, w) :: r => by
    show (bif EV.same (.str s) (.str a) then (.str s, v) :: ents r else (.str a, w) :: update (.str s) v (ents r)) = _
    rw [same_str, update_ents r]
    by_cases h : s = a <;> simp [h, setL, ents]
theorem erase_ents {s : Txt} : ∀ L : List (Txt × EV), erase (.str s) (ents L) = ents (delL s L)
  | [] => rfl
  | (a, w) :: r => by
    show (bif EV.same (.str s) (.str a) then ents r else (.str a, w) :: erase (.str s) (ents r)) = _
    rw [same_str, erase_ents r]
    by_cases h : s = a <;> simp [h, delL, ents]
theorem keys_ents {s : Txt} (L : List (Txt × EV)) : keysOk 1 (.str s) (ents L) = true := by
  have : sortsOk (.str s) (ents L) = true := by
    induction L with
    | nil => rfl
    | cons p r ih => exact ih
  unfold keysOk; rw [this]; rfl
theorem getL_set {s s' : Txt} {v : EV} : ∀ L : List (Txt × EV), getL s' (setL s v L) = if s' = s then some v else getL s' L
  | [] => rfl
  | (a, w) :: r => by
    unfold setL
    by_cases h : s = a
    · subst h
      rw [if_pos rfl]
      unfold getL
      by_cases h2 : s' = s <;> simp [h2, getL]
    · rw [if_neg h]
      unfold getL
      rw [getL_set r]
      by_cases h2 : s' = a
      · subst h2
        rw [if_pos rfl, if_pos rfl, if_neg (fun q => h q.symm)]
      · rw [if_neg h2, if_neg h2]
theorem getL_none {s : Txt} : ∀ {L : List (Txt × EV)}, s ∉ L.map Prod.fst → getL s L = none
  | [], _ => rfl
  | (a, w) :: r, h => by
    simp only [List.map_cons, List.mem_cons, not_or] at h
    unfold getL; rw [if_neg h.1, getL_none h.2]
theorem getL_del {s s' : Txt} : ∀ {L : List (Txt × EV)}, (L.map Prod.fst).Nodup → getL s' (delL s L) = if s' = s then none else getL s' L
  | [], _ => by simp [delL, getL]
  | (a, w) :: r, h => by
    simp only [List.map_cons, List.nodup_cons] at h
    unfold delL
    by_cases h1 : s = a
    · subst h1
      rw [if_pos rfl]
      by_cases h2 : s' = s
      · subst h2; rw [if_pos rfl, getL_none h.1]
      · rw [if_neg h2]
        conv => rhs; unfold getL
        rw [if_neg h2]
    · rw [if_neg h1]
      unfold getL
      rw [getL_del h.2]
      by_cases h2 : s' = a
      · subst h2
        rw [if_pos rfl, if_pos rfl, if_neg (fun q => h1 q.symm)]
      · rw [if_neg h2, if_neg h2]
theorem mem_setL {s a : Txt} {v : EV} : ∀ {L : List (Txt × EV)}, a ∈ (setL s v L).map Prod.fst → a = s ∨ a ∈ L.map Prod.fst
  | [], h => by simp [setL] at h; exact .inl h
  | (b, w) :: r, h => by
    unfold setL at h
    by_cases h1 : s = b
    · rw [if_pos h1] at h
      simp only [List.map_cons, List.mem_cons] at h ⊢
      rcases h with h | h
      · exact .inl h
      · exact .inr (.inr h)
    · rw [if_neg h1] at h
      simp only [List.map_cons, List.mem_cons] at h ⊢
      rcases h with h | h
      · exact .inr (.inl h)
      · rcases mem_setL h with h | h
        · exact .inl h
        · exact .inr (.inr h)
theorem nodup_setL {s : Txt} {v : EV} : ∀ {L : List (Txt × EV)}, (L.map Prod.fst).Nodup → ((setL s v L).map Prod.fst).Nodup
  | [], _ => by simp [setL]
  | (b, w) :: r, h => by
    simp only [List.map_cons, List.nodup_cons] at h
    unfold setL
    by_cases h1 : s = b
    · rw [if_pos h1]; simp only [List.map_cons, List.nodup_cons]; exact ⟨h1 ▸ h.1, h.2⟩
    · rw [if_neg h1]; simp only [List.map_cons, List.nodup_cons]
      exact ⟨fun q => (mem_setL q).elim (fun e => h1 e.symm) h.1, nodup_setL h.2⟩
theorem mem_delL {s a : Txt} : ∀ {L : List (Txt × EV)}, a ∈ (delL s L).map Prod.fst → a ∈ L.map Prod.fst
  | [], h => h
  | (b, w) :: r, h => by
    unfold delL at h
    by_cases h1 : s = b
    · rw [if_pos h1] at h; exact List.mem_cons_of_mem _ h
    · rw [if_neg h1] at h
      simp only [List.map_cons, List.mem_cons] at h ⊢
      exact h.imp id mem_delL
theorem nodup_delL {s : Txt} : ∀ {L : List (Txt × EV)}, (L.map Prod.fst).Nodup → ((delL s L).map Prod.fst).Nodup
  | [], h => h
  | (b, w) :: r, h => by
    simp only [List.map_cons, List.nodup_cons] at h
    unfold delL
    by_cases h1 : s = b
    · rw [if_pos h1]; exact h.2
    · rw [if_neg h1]; simp only [List.map_cons, List.nodup_cons]
      exact ⟨fun q => h.1 (mem_delL q), nodup_delL h.2⟩
/-! ### Rows that are cut and grow -/
/-- What a block is for. -/
inductive Part where
  | box | map | ord | knd | other
  | row (s : Txt)
deriving DecidableEq
/-- A row in a block of its own, of which there may be more than it has. -/
structure Vec (o : Nat → Part) (m : Mem) (p : Part) (v : EV) (cs : List EV) (n esz : Nat) : Prop where
  is : (v = .nilslice ∧ n = 0) ∨ ∃ b t rest, v = .slice b 0 n none ∧ b < m.next ∧ o b = p ∧ m.get b = .cells (cs ++ rest) esz t false
  len : cs.length = n * esz
section
variable {o o' : Nat → Part} {m m' : Mem} {p : Part} {v : EV} {cs : List EV} {n esz : Nat}
theorem Vec.keep (h : Vec o m p v cs n esz) (hn : m.next ≤ m'.next) (hk : ∀ c, c < m.next → o c = p → m'.get c = m.get c) (ho : ∀ c, c < m.next → o' c = o c) : Vec o' m' p v cs n esz := by
  refine ⟨?_, h.len⟩
  rcases h.is with h | ⟨b, t, rest, e, hb, hp, hg⟩
  · exact .inl h
  · exact .inr ⟨b, t, rest, e, by omega, (ho b hb).trans hp, (hk b hb hp).trans hg⟩
theorem Vec.nil : Vec o m p .nilslice [] 0 esz := ⟨.inl ⟨rfl, rfl⟩, by simp⟩
theorem Vec.row (h : Vec o m p v cs n esz) : m.source esz v = some (n, cs) := by
  have hl := h.len
  rcases h.is with ⟨rfl, rfl⟩ | ⟨b, t, rest, rfl, hb, hp, hg⟩
  · rw [Nat.zero_mul] at hl; rw [List.eq_nil_of_length_eq_zero hl]; rfl
  · show (m.row b 0 (n * esz)).map (fun cs => (n, cs)) = _
    rw [← hl]
    by_cases h0 : cs.length = 0
    · rw [h0, Mem.row_none, List.eq_nil_of_length_eq_zero h0]; rfl
    · rw [Mem.row_pos h0]; unfold Mem.row1
      rw [hg]
      show ((bif (0 + cs.length).ble (cs ++ rest).length then some (((cs ++ rest).drop 0).take cs.length) else none).map _) = _
      rw [Nat.ble_eq_true_of_le (by simp)]
      simp
/-- One more element. -/
theorem Vec.append (h : Vec o m p v cs n esz) {x : EV} {xs : List EV} {e : Nat} (hx : m.source esz x = some (1, xs)) (hxl : xs.length = esz) (hr : n + 1 ≤ room) :
    evAppend m e esz v x = some (.slice (nb m.next 0) 0 (n + 1) none, grow m v e esz (cs ++ xs)) ∧ (∀ c, c < m.next → o c ≠ p → (grow m v e esz (cs ++ xs)).get c = m.get c) ∧
      Vec (fun c => if c = m.next then p else o c) (grow m v e esz (cs ++ xs)) p (.slice (nb m.next 0) 0 (n + 1) none) (cs ++ xs) (n + 1) esz := by
  have hl := h.len
  have hlen : (cs ++ xs).length = (n + 1) * esz := by rw [List.length_append, hl, hxl, Nat.add_mul, Nat.one_mul]
  rcases h.is with ⟨rfl, rfl⟩ | ⟨b, t, rest, rfl, hb, hp, hg⟩
  · rw [Nat.zero_mul] at hl
    obtain rfl := List.eq_nil_of_length_eq_zero hl
    refine ⟨?_, fun c hc _ => by unfold grow; rw [get_new, if_neg (by omega)], ⟨.inr ⟨m.next, e, [], rfl, by rw [grow_next]; unfold nb; omega, by simp, by unfold grow; rw [get_new, if_pos rfl, List.append_nil]⟩, hlen⟩⟩
    unfold evAppend
    rw [hx]
    rfl
  · have hrow : m.row b 0 (n * esz) = some cs := by
      have := h.row
      have e1 : m.source esz (.slice b 0 n none) = (m.row b 0 (n * esz)).map (fun cs => (n, cs)) := rfl
      rw [e1] at this
      cases hq : m.row b 0 (n * esz) with
      | none => rw [hq] at this; cases this
      | some q => rw [hq] at this; simp only [Option.map_some, Option.some.injEq, Prod.mk.injEq, true_and] at this; rw [this]
    refine ⟨?_, fun c hc hne => ?_, ⟨.inr ⟨m.next, e, [], rfl, by rw [grow_next]; unfold nb; omega, by simp, ?_⟩, hlen⟩⟩
    · unfold evAppend
      rw [hx]
      simp only [beq_ff (show (1 : Nat) ≠ 0 by decide), cond_false, Nat.ble_eq_true_of_le hr, cond_true, hrow, hg, beq_self]
      rfl
    · have hcb : c ≠ b := fun q => hne (q ▸ hp)
      show ((m.new (.cells (cs ++ xs) esz e false)).set b .dead).get c = _
      rw [get_set_ne hcb, get_new, if_neg (by omega)]
    · show ((m.new (.cells (cs ++ xs) esz e false)).set b .dead).get m.next = _
      rw [get_set_ne (by omega), get_new, if_pos rfl, List.append_nil]
/-- Fewer elements. -/
theorem Vec.cut (h : Vec o m p v cs n esz) {k : Nat} (hk : k ≤ n) (h0 : 0 < n) : ∃ b t, v = .slice b 0 n none ∧ (∃ rest, m.get b = .cells (cs ++ rest) esz t false) ∧ b < m.next ∧ o b = p ∧ Vec o m p (.slice b 0 k none) (cs.take (k * esz)) k esz := by
  have hl := h.len
  rcases h.is with ⟨_, q⟩ | ⟨b, t, rest, rfl, hb, hp, hg⟩
  · omega
  · refine ⟨b, t, rfl, ⟨rest, hg⟩, hb, hp, ⟨.inr ⟨b, t, cs.drop (k * esz) ++ rest, rfl, hb, hp, by rw [← List.append_assoc, List.take_append_drop]; exact hg⟩, ?_⟩⟩
    rw [List.length_take, hl]
    exact Nat.min_eq_left (Nat.mul_le_mul_right _ hk)
end
/-! ### How scopes stand -/
def strs (l : List Txt) : List EV := l.map .str
def ints (l : List Int) : List EV := l.map (.int .i64)
def plc (v : Pv) : List EV := [.int .i64 v.slot, .int .i64 v.kind, .int .i64 v.block]
def plcs (l : List Pv) : List EV := (l.map plc).flatten
structure Sc3 (o : Nat → Part) (m : Mem) (sb mb : Nat) (D : Int) (N : List Txt) (F : Txt → List Pv) (K : List Int) (L : List (Txt × EV)) (P : Txt → EV) (ov kv : EV) : Prop where
  get : m.get sb = .cells [.map mb, ov, kv, .int .i64 D] 4 t_scope_Scopes false
  gm : m.get mb = .map (ents L)
  sb : sb < m.next ∧ o sb = .box
  mb : mb < m.next ∧ o mb = .map
  ord : Vec o m .ord ov (strs N) N.length 1
  knd : Vec o m .knd kv (ints K) K.length 1
  nd : (L.map Prod.fst).Nodup
  ent : ∀ s, getL s L = if F s = [] then none else some (P s)
  row : ∀ s, F s ≠ [] → Vec o m (.row s) (P s) (plcs (F s)) (F s).length 3
  new : ∀ c, m.next ≤ c → o c = .other
abbrev Sc (o : Nat → Part) (m : Mem) (sb mb : Nat) (x : Mo) (L : List (Txt × EV)) (P : Txt → EV) (ov kv : EV) : Prop := Sc3 o m sb mb x.D (x.V.map Pv.name) (fun s => ofN s x.V) x.K L P ov kv
/-- What a step leaves. -/
structure Stp (o : Nat → Part) (m : Mem) (o' : Nat → Part) (m' : Mem) : Prop where
  n : m.next ≤ m'.next
  ow : ∀ c, c < m.next → o' c = o c
  k : ∀ c, c < m.next → o c = .other → m'.get c = m.get c
theorem Stp.refl {o : Nat → Part} {m : Mem} : Stp o m o m := ⟨Nat.le_refl _, fun _ _ => rfl, fun _ _ _ => rfl⟩
theorem Stp.trans {o o' o'' : Nat → Part} {m m' m'' : Mem} (h : Stp o m o' m') (h' : Stp o' m' o'' m'') : Stp o m o'' m'' :=
  ⟨Nat.le_trans h.n h'.n, fun c hc => (h'.ow c (Nat.lt_of_lt_of_le hc h.n)).trans (h.ow c hc), fun c hc hp => (h'.k c (Nat.lt_of_lt_of_le hc h.n) ((h.ow c hc).trans hp)).trans (h.k c hc hp)⟩
section
variable {o : Nat → Part} {m m' : Mem} {sb mb : Nat} {D : Int} {N : List Txt} {F : Txt → List Pv} {K : List Int} {L : List (Txt × EV)} {P : Txt → EV} {ov kv : EV}
/-- Blocks set aside leave all asx it was. -/
theorem Sc3.keep (h : Sc3 o m sb mb D N F K L P ov kv) (hn : m.next ≤ m'.next) (hk : ∀ c, c < m.next → m'.get c = m.get c) : Sc3 o m' sb mb D N F K L P ov kv ∧ Stp o m o m' :=
  ⟨⟨(hk sb h.sb.1).trans h.get, (hk mb h.mb.1).trans h.gm, ⟨by have := h.sb.1; omega, h.sb.2⟩, ⟨by have := h.mb.1; omega, h.mb.2⟩, h.ord.keep hn (fun c hc _ => hk c hc) fun _ _ => rfl, h.knd.keep hn (fun c hc _ => hk c hc) fun _ _ => rfl, h.nd, h.ent, fun s hs => (h.row s hs).keep hn (fun c hc _ => hk c hc) fun _ _ => rfl, fun c hc => h.new c (Nat.le_trans hn hc)⟩,
    ⟨hn, fun _ _ => rfl, fun c hc _ => hk c hc⟩⟩
/-- The fields are written anew: the names, the kinds, or the depth. -/
theorem Sc3.fields (h : Sc3 o m sb mb D N F K L P ov kv) {o' : Nat → Part} {D' : Int} {N' : List Txt} {K' : List Int} {ov' kv' : EV} (hn : m.next ≤ m'.next) (ho : ∀ c, c < m.next → o' c = o c) (hnew : ∀ c, m'.next ≤ c → o' c = .other)
    (hg : m'.get sb = .cells [.map mb, ov', kv', .int .i64 D'] 4 t_scope_Scopes false) (h1 : Vec o' m' .ord ov' (strs N') N'.length 1) (h2 : Vec o' m' .knd kv' (ints K') K'.length 1)
    (hk : ∀ c, c < m.next → o c ≠ .box → o c ≠ .ord → o c ≠ .knd → m'.get c = m.get c) : Sc3 o' m' sb mb D' N' F K' L P ov' kv' ∧ Stp o m o' m' := by
  have key : ∀ (p : Part), p ≠ .box → p ≠ .ord → p ≠ .knd → ∀ c, c < m.next → o c = p → m'.get c = m.get c := fun p q1 q2 q3 c hc e => hk c hc (e ▸ q1) (e ▸ q2) (e ▸ q3)
  exact ⟨⟨hg, (key .map (by decide) (by decide) (by decide) mb h.mb.1 h.mb.2).trans h.gm, ⟨by have := h.sb.1; omega, (ho sb h.sb.1).trans h.sb.2⟩, ⟨by have := h.mb.1; omega, (ho mb h.mb.1).trans h.mb.2⟩, h1, h2, h.nd, h.ent, fun s hs => (h.row s hs).keep hn (key _ (by simp) (by simp) (by simp)) ho, hnew⟩,
    ⟨hn, ho, fun c hc hp => key .other (by decide) (by decide) (by decide) c hc hp⟩⟩
/-- A name's row is put anew, or struck. -/
theorem Sc3.entry (h : Sc3 o m sb mb D N F K L P ov kv) {o' : Nat → Part} {s : Txt} {l : List Pv} {w : EV} {L' : List (Txt × EV)} (hn : m.next ≤ m'.next) (ho : ∀ c, c < m.next → o' c = o c) (hnew : ∀ c, m'.next ≤ c → o' c = .other)
    (hg : m'.get mb = .map (ents L')) (hnd : (L'.map Prod.fst).Nodup) (hent : ∀ s', getL s' L' = if s' = s then (if l = [] then none else some w) else getL s' L) (hrow : l ≠ [] → Vec o' m' (.row s) w (plcs l) l.length 3)
    (hk : ∀ c, c < m.next → o c ≠ .map → o c ≠ .row s → m'.get c = m.get c) : Sc3 o' m' sb mb D N (fun t => if t = s then l else F t) K L' (fun t => if t = s then w else P t) ov kv ∧ Stp o m o' m' := by
  have key : ∀ (p : Part), p ≠ .map → p ≠ .row s → ∀ c, c < m.next → o c = p → m'.get c = m.get c := fun p q1 q2 c hc e => hk c hc (e ▸ q1) (e ▸ q2)
  refine ⟨⟨(key .box (by decide) (by simp) sb h.sb.1 h.sb.2).trans h.get, hg, ⟨by have := h.sb.1; omega, (ho sb h.sb.1).trans h.sb.2⟩, ⟨by have := h.mb.1; omega, (ho mb h.mb.1).trans h.mb.2⟩, h.ord.keep hn (key _ (by decide) (by simp)) ho, h.knd.keep hn (key _ (by decide) (by simp)) ho, hnd, fun t => ?_, fun t ht => ?_, hnew⟩,
    ⟨hn, ho, fun c hc hp => key .other (by decide) (by simp) c hc hp⟩⟩
  · rw [hent]
    by_cases q : t = s
    · simp only [q, if_true]
    · simp only [q, if_false]; exact h.ent t
  · by_cases q : t = s
    · subst q; simp only [if_true] at ht ⊢; exact hrow ht
    · simp only [q, if_false] at ht ⊢
      exact (h.row t ht).keep hn (key _ (by simp) (by simp [q])) ho
end
end Go.Proofs.Ytjegondbhejpcaa.Ev
end
section
namespace Go.Proofs.Ytjegondbhejpcaa.Ev
open Go
set_option linter.unusedSimpArgs false
set_option linter.unusedVariables false
set_option maxRecDepth 10000
set_option maxHeartbeats 4000000
section
variable {o : Nat → Part} {m m' : Mem} {sb mb : Nat} {x : Mo} {L : List (Txt × EV)} {P : Txt → EV} {ov kv : EV}
theorem made_at {D : Int} {a b c : EV} (hg : m.get sb = .cells [a, b, c, .int .i64 D] 4 t_scope_Scopes false) (hb : sb < m.next) (hd : 1 ≤ D) : lookT B0 F_scope_Scopes_made [.ptr sb 0] m = some (.ret (.bool true) (bump m 0)) := by
  have hc : (0 : Int) < D := by omega
  obtain ⟨X, hE⟩ : ∃ X, resR F_scope_Scopes_made.results (exec B0 F_scope_Scopes_made.body (argsF [.ptr sb 0] 0 fr00) m) = X := ⟨_, rfl⟩
  have hX := hE
  simp +contextual -implicitDefEqProofs (maxSteps := 1000000) (maxDischargeDepth := 8) only [F_scope_Scopes_made, hg, hb, hc, zz0, zz1, zz2, zz3, zz4, zz5, zz6, zz7, zz8, zz9, argsF, reduceIte, reduceCtorEq, Nat.reduceEqDiff, Nat.reduceBEq, Nat.reduceAdd, Int.reduceLT, Int.reduceLE, Int.reduceEq, Int.reduceToNat, Int.reduceNeg, Nat.reduceLeDiff, Int.reducePow, implies_true, UInt8.reduceToNat, Int.reduceSub, Int.reduceAdd, Nat.reduceLT, Nat.reduceMul, Nat.reduceSub, Nat.reduceBNe] at hX
  subst hX
  exact look_at (by simp [F_scope_Scopes_made]) hE rfl rfl keeps_refl
theorem made_ok (h : Sc o m sb mb x L P ov kv) (hd : 1 ≤ x.D) : run U 21 [.ptr sb 0] m = some (.ret (.bool true) (bump m 0)) := by
  rw [look_scope_Scopes_made]; exact made_at h.get h.sb.1 hd
theorem depth_at {D : Int} {a b c : EV} (hg : m.get sb = .cells [a, b, c, .int .i64 D] 4 t_scope_Scopes false) (hb : sb < m.next) : lookT B1 F_scope_Scopes_Depth [.ptr sb 0] m = some (.ret (.int .i64 D) (bump m 0)) := by
  obtain ⟨X, hE⟩ : ∃ X, resR F_scope_Scopes_Depth.results (exec B1 F_scope_Scopes_Depth.body (argsF [.ptr sb 0] 0 fr00) m) = X := ⟨_, rfl⟩
  have hX := hE
  simp +contextual -implicitDefEqProofs (maxSteps := 1000000) (maxDischargeDepth := 8) only [F_scope_Scopes_Depth, hg, hb, zz0, zz1, zz2, zz3, zz4, zz5, zz6, zz7, zz8, zz9, argsF, reduceIte, reduceCtorEq, Nat.reduceEqDiff, Nat.reduceBEq, Nat.reduceAdd, Int.reduceLT, Int.reduceLE, Int.reduceEq, Int.reduceToNat, Int.reduceNeg, Nat.reduceLeDiff, Int.reducePow, implies_true, UInt8.reduceToNat, Int.reduceSub, Int.reduceAdd, Nat.reduceLT, Nat.reduceMul, Nat.reduceSub, Nat.reduceBNe] at hX
  subst hX
  exact look_at (by simp [F_scope_Scopes_Depth]) hE rfl rfl keeps_refl
theorem depth_ok (h : Sc o m sb mb x L P ov kv) : run U 12 [.ptr sb 0] m = some (.ret (.int .i64 x.D) (bump m 0)) := by
  rw [look_scope_Scopes_Depth]; exact depth_at h.get h.sb.1
/-- A name that means nothing. -/
theorem last_no (h : Sc o m sb mb x L P ov kv) (hd : 1 ≤ x.D) {s : Txt} (hs : ofN s x.V = []) : ∃ k, lookT B2 F_scope_Scopes_last [.ptr sb 0, .str s] m = some (.ret (.tuple [.agg [.int .i64 0, .int .i64 0, .int .i64 0], .bool false]) (bump m k)) := by
  have hg := h.get
  have hgm := h.gm
  have hb := h.sb.1
  have hmb := h.mb.1
  have hmd : ∀ M : Mem, M.get sb = .cells [.map mb, ov, kv, .int .i64 x.D] 4 t_scope_Scopes false → sb < M.next → lookT B0 F_scope_Scopes_made [.ptr sb 0] M = some (.ret (.bool true) (bump M 0)) := fun M h1 h2 => made_at h1 h2 hd
  have hf : find (.str s) (ents L) = none := by rw [find_ents, h.ent, if_pos hs]
  have hk := keys_ents (s := s) L
  obtain ⟨X, hE⟩ : ∃ X, resR F_scope_Scopes_last.results (exec B2 F_scope_Scopes_last.body (argsF [.ptr sb 0, .str s] 0 fr00) m) = X := ⟨_, rfl⟩
  have hX := hE
  simp +contextual -implicitDefEqProofs (maxSteps := 1000000) (maxDischargeDepth := 8) only [F_scope_Scopes_last, look2_scope_Scopes_made, hmd, hg, hb, hmb, hgm, hf, hk, cond_true, zz0, zz1, zz2, zz3, zz4, zz5, zz6, zz7, zz8, zz9, argsF, reduceIte, reduceCtorEq, Nat.reduceEqDiff, Nat.reduceBEq, Nat.reduceAdd, Int.reduceLT, Int.reduceLE, Int.reduceEq, Int.reduceToNat, Int.reduceNeg, Nat.reduceLeDiff, Int.reducePow, implies_true, UInt8.reduceToNat, Int.reduceSub, Int.reduceAdd, Nat.reduceLT, Nat.reduceMul, Nat.reduceSub, Nat.reduceBNe] at hX
  subst hX
  exact ⟨_, look_at (by simp [F_scope_Scopes_last]) hE rfl rfl (keeps_bump keeps_ext)⟩
theorem plcs_len (l : List Pv) : (plcs l).length = l.length * 3 := by
  induction l with
  | nil => rfl
  | cons v l ih => unfold plcs at ih ⊢; simp only [List.map_cons, List.flatten_cons, List.length_append, ih, List.length_cons, plc, List.length_nil]; omega
theorem plcs_snoc (l : List Pv) (v : Pv) : plcs (l ++ [v]) = plcs l ++ plc v := by unfold plcs; simp
theorem plcs_last (l : List Pv) (v : Pv) (rest : List EV) : ((plcs (l ++ [v]) ++ rest).drop (l.length * 3)).take 3 = plc v ∧ l.length * 3 + 3 ≤ (plcs (l ++ [v]) ++ rest).length := by
  refine ⟨?_, by simp [plcs_len]; omega⟩
  rw [plcs_snoc, ← plcs_len, List.append_assoc, List.drop_left]
  rfl
/-- A name that means something. -/
theorem last_yes (h : Sc o m sb mb x L P ov kv) (hd : 1 ≤ x.D) {s : Txt} {l : List Pv} {v : Pv} (hs : ofN s x.V = l ++ [v]) (hl : l.length < 1000000) : ∃ k, lookT B2 F_scope_Scopes_last [.ptr sb 0, .str s] m = some (.ret (.tuple [.agg (plc v), .bool true]) (bump m k)) := by
  have hg := h.get
  have hgm := h.gm
  have hb := h.sb.1
  have hmb := h.mb.1
  have hmd : ∀ M : Mem, M.get sb = .cells [.map mb, ov, kv, .int .i64 x.D] 4 t_scope_Scopes false → sb < M.next → lookT B0 F_scope_Scopes_made [.ptr sb 0] M = some (.ret (.bool true) (bump M 0)) := fun M h1 h2 => made_at h1 h2 hd
  have hf : find (.str s) (ents L) = some (P s) := by rw [find_ents, h.ent, if_neg (by rw [hs]; simp)]
  have hk := keys_ents (s := s) L
  have hr := h.row s (by rw [hs]; simp)
  simp only [hs] at hr
  have hln : (l ++ [v]).length = l.length + 1 := by simp
  rw [hln] at hr
  rcases hr.is with ⟨_, q⟩ | ⟨b, t, rest, e, hbn, _, hgb⟩
  · omega
  obtain ⟨p1, p2⟩ := plcs_last l v rest
  have hpt : partOf (some 3) (plcs (l ++ [v]) ++ rest) (l.length * 3) = some (.agg (plc v)) := by
    simp only [partOf]; rw [Nat.ble_eq_true_of_le p2, cond_true, p1]
  have hn0 : ¬ (((l.length + 1 : Nat) : Int) = 0) := by omega
  have hw : IntKind.i64.wrap (((l.length + 1 : Nat) : Int) - 1) = (l.length : Int) := by rw [wrap_i64 (by omega) (by omega)]; omega
  have hlt : l.length < l.length + 1 := Nat.lt_succ_self _
  rw [e] at hf
  have hpv : plc v = [.int .i64 v.slot, .int .i64 v.kind, .int .i64 v.block] := rfl
  rw [hpv] at hpt ⊢
  obtain ⟨X, hE⟩ : ∃ X, resR F_scope_Scopes_last.results (exec B2 F_scope_Scopes_last.body (argsF [.ptr sb 0, .str s] 0 fr00) m) = X := ⟨_, rfl⟩
  have hX := hE
  simp +contextual -implicitDefEqProofs (maxSteps := 1000000) (maxDischargeDepth := 8) only [F_scope_Scopes_last, look2_scope_Scopes_made, hmd, hg, hb, hmb, hgm, hf, hk, hgb, hpt, hn0, hw, hlt, hbn, idx_cast, Nat.zero_add, cond_true, zz0, zz1, zz2, zz3, zz4, zz5, zz6, zz7, zz8, zz9, argsF, reduceIte, reduceCtorEq, Nat.reduceEqDiff, Nat.reduceBEq, Nat.reduceAdd, Int.reduceLT, Int.reduceLE, Int.reduceEq, Int.reduceToNat, Int.reduceNeg, Nat.reduceLeDiff, Int.reducePow, implies_true, UInt8.reduceToNat, Int.reduceSub, Int.reduceAdd, Nat.reduceLT, Nat.reduceMul, Nat.reduceSub, Nat.reduceBNe] at hX
  subst hX
  exact ⟨_, look_at (by simp [F_scope_Scopes_last]) hE rfl rfl (keeps_bump keeps_ext)⟩
end
end Go.Proofs.Ytjegondbhejpcaa.Ev
end
section
namespace Go.Proofs.Ytjegondbhejpcaa.Ev
open Go
set_option linter.unusedSimpArgs false
set_option linter.unusedVariables false
set_option maxRecDepth 10000
set_option maxHeartbeats 4000000
theorem look_at' {T : Nat → Option Ent} {F : IFun} {args : List EV} {v : EV} {m m1 : Mem} (hl : args.length ≤ F.ntmps) (h : resR F.results (exec T F.body (argsF args 0 fr00) m) = some (.ret v m1)) (hf : Flat v = true) (hn : m.next ≤ m1.next) (hk : Keeps m m1) : ∃ k, lookT T F args m = some (.ret v (bump m k)) :=
  ⟨m1.next - m.next, look_at hl h hf (by unfold nb; omega) hk⟩
section
variable {o : Nat → Part} {m m' : Mem} {sb mb : Nat} {x : Mo} {L : List (Txt × EV)} {P : Txt → EV} {ov kv : EV}
theorem find_no (h : Sc o m sb mb x L P ov kv) (hd : 1 ≤ x.D) {s : Txt} (hs : ofN s x.V = []) : ∃ k, run U 9 [.ptr sb 0, .str s] m = some (.ret (.tuple [.int .i64 0, .int .i64 0, .bool false]) (bump m k)) := by
  obtain ⟨k, e⟩ := last_no h hd hs
  rw [look_scope_Scopes_Find]
  have hMn : m.next ≤ (bump m k).next := le_nb
  have hMk : Keeps m (bump m k) := keeps_refl
  generalize bump m k = M at e hMn hMk
  obtain ⟨X, hE⟩ : ∃ X, resR F_scope_Scopes_Find.results (exec B3 F_scope_Scopes_Find.body (argsF [.ptr sb 0, .str s] 0 fr00) m) = X := ⟨_, rfl⟩
  have hX := hE
  simp +contextual -implicitDefEqProofs (maxSteps := 1000000) (maxDischargeDepth := 8) only [F_scope_Scopes_Find, look3_scope_Scopes_last, e, zz0, zz1, zz2, zz3, zz4, zz5, zz6, zz7, zz8, zz9, argsF, reduceIte, reduceCtorEq, Nat.reduceEqDiff, Nat.reduceBEq, Nat.reduceAdd, Int.reduceLT, Int.reduceLE, Int.reduceEq, Int.reduceToNat, Int.reduceNeg, Nat.reduceLeDiff, Int.reducePow, implies_true, UInt8.reduceToNat, Int.reduceSub, Int.reduceAdd, Nat.reduceLT, Nat.reduceMul, Nat.reduceSub, Nat.reduceBNe] at hX
  subst hX
  exact look_at' (by simp [F_scope_Scopes_Find]) hE rfl (by simp only [next_bump, next_ext]; exact Nat.le_trans hMn (Nat.le_trans le_nb le_nb)) (keeps_bump (keeps_ext' hMk hMn))
theorem find_yes (h : Sc o m sb mb x L P ov kv) (hd : 1 ≤ x.D) {s : Txt} {l : List Pv} {v : Pv} (hs : ofN s x.V = l ++ [v]) (hl : l.length < 1000000) : ∃ k, run U 9 [.ptr sb 0, .str s] m = some (.ret (.tuple [.int .i64 v.slot, .int .i64 v.kind, .bool true]) (bump m k)) := by
  obtain ⟨k, e⟩ := last_yes h hd hs hl
  rw [look_scope_Scopes_Find]
  have hMn : m.next ≤ (bump m k).next := le_nb
  have hMk : Keeps m (bump m k) := keeps_refl
  generalize bump m k = M at e hMn hMk
  have hpv : plc v = [.int .i64 v.slot, .int .i64 v.kind, .int .i64 v.block] := rfl
  rw [hpv] at e
  obtain ⟨X, hE⟩ : ∃ X, resR F_scope_Scopes_Find.results (exec B3 F_scope_Scopes_Find.body (argsF [.ptr sb 0, .str s] 0 fr00) m) = X := ⟨_, rfl⟩
  have hX := hE
  simp +contextual -implicitDefEqProofs (maxSteps := 1000000) (maxDischargeDepth := 8) only [F_scope_Scopes_Find, look3_scope_Scopes_last, e, zz0, zz1, zz2, zz3, zz4, zz5, zz6, zz7, zz8, zz9, argsF, reduceIte, reduceCtorEq, Nat.reduceEqDiff, Nat.reduceBEq, Nat.reduceAdd, Int.reduceLT, Int.reduceLE, Int.reduceEq, Int.reduceToNat, Int.reduceNeg, Nat.reduceLeDiff, Int.reducePow, implies_true, UInt8.reduceToNat, Int.reduceSub, Int.reduceAdd, Nat.reduceLT, Nat.reduceMul, Nat.reduceSub, Nat.reduceBNe] at hX
  subst hX
  exact look_at' (by simp [F_scope_Scopes_Find]) hE rfl (by simp only [next_bump, next_ext]; exact Nat.le_trans hMn (Nat.le_trans le_nb le_nb)) (keeps_bump (keeps_ext' hMk hMn))
theorem ints_length {l : List Int} : (ints l).length = l.length := by unfold ints; rw [List.length_map]
/-- All kinds, in a row of one's own. -/
theorem kinds_ok (h : Sc o m sb mb x L P ov kv) (hd : 1 ≤ x.D) (hl : x.K.length < 1000000) : ∃ v m1, run U 10 [.ptr sb 0] m = some (.ret v m1) ∧ Own m1 v (ints x.K) x.K.length 1 m.next ∧ m.next ≤ m1.next ∧ Keeps m m1 := by
  have hg := h.get
  have hb := h.sb.1
  have hmd := made_ok h hd
  have hr := h.knd.row
  rw [run_p2 (by simp [F_scope_Scopes_Kinds])]
  by_cases h0 : x.K.length = 0
  · have ha : evAppend m 3 1 .nilslice kv = some (.nilslice, m) := by unfold evAppend; rw [hr, h0]; rfl
    have ha' : evAppend (bump m 0) 3 1 .nilslice kv = some (.nilslice, bump m 0) := ha
    refine ⟨.nilslice, bump m 0, ?_, ⟨.inl ⟨rfl, h0, List.eq_nil_of_length_eq_zero (by rw [ints_length]; exact h0)⟩, by rw [ints_length]; omega⟩, le_nb, keeps_refl⟩
    simp +contextual -implicitDefEqProofs (maxSteps := 1000000) (maxDischargeDepth := 8) only [F_scope_Scopes_Kinds, hmd, hg, hb, ha', zz0, zz1, zz2, zz3, zz4, zz5, zz6, zz7, zz8, zz9, argsF, reduceIte, reduceCtorEq, Nat.reduceEqDiff, Nat.reduceBEq, Nat.reduceAdd, Int.reduceLT, Int.reduceLE, Int.reduceEq, Int.reduceToNat, Int.reduceNeg, Nat.reduceLeDiff, Int.reducePow, implies_true, UInt8.reduceToNat, Int.reduceSub, Int.reduceAdd, Nat.reduceLT, Nat.reduceMul, Nat.reduceSub, Nat.reduceBNe]
  · have ha : evAppend (bump m 0) 3 1 .nilslice kv = some (.slice m.next 0 x.K.length none, (bump m 0).new (.cells (ints x.K) 1 3 false)) := by
      unfold evAppend
      rw [show (bump m 0).source 1 kv = some (x.K.length, ints x.K) from hr]
      simp only [beq_ff h0, cond_false, Nat.ble_eq_true_of_le (show x.K.length ≤ room by unfold room; omega), cond_true]
      rfl
    refine ⟨.slice m.next 0 x.K.length none, (bump m 0).new (.cells (ints x.K) 1 3 false), ?_, ⟨.inr ⟨m.next, none, 3, rfl, Nat.le_refl _, ?_, ?_, .inl rfl⟩, by rw [ints_length]; omega⟩, ?_, ?_⟩
    · simp +contextual -implicitDefEqProofs (maxSteps := 1000000) (maxDischargeDepth := 8) only [F_scope_Scopes_Kinds, hmd, hg, hb, ha, zz0, zz1, zz2, zz3, zz4, zz5, zz6, zz7, zz8, zz9, argsF, reduceIte, reduceCtorEq, Nat.reduceEqDiff, Nat.reduceBEq, Nat.reduceAdd, Int.reduceLT, Int.reduceLE, Int.reduceEq, Int.reduceToNat, Int.reduceNeg, Nat.reduceLeDiff, Int.reducePow, implies_true, UInt8.reduceToNat, Int.reduceSub, Int.reduceAdd, Nat.reduceLT, Nat.reduceMul, Nat.reduceSub, Nat.reduceBNe]
    · rw [next_new]; show m.next < m.next + 0 + 1; omega
    · rw [get_new]; exact if_pos rfl
    · rw [next_new]; show m.next ≤ m.next + 0 + 1; omega
    · intro c hc; rw [get_new]; exact if_neg (show ¬ c = m.next + 0 by omega)
/-- Another depth. -/
theorem Sc3.depth {D D' : Int} {N : List Txt} {F : Txt → List Pv} {K : List Int} (h : Sc3 o m sb mb D N F K L P ov kv) (hn : m.next ≤ m'.next) (hg : m'.get sb = .cells [.map mb, ov, kv, .int .i64 D'] 4 t_scope_Scopes false) (hk : ∀ c, c < m.next → c ≠ sb → m'.get c = m.get c) : Sc3 o m' sb mb D' N F K L P ov kv ∧ Stp o m o m' := by
  have key : ∀ (p : Part), p ≠ .box → ∀ c, c < m.next → o c = p → m'.get c = m.get c := fun p hp c hc e => hk c hc fun q => hp (by rw [← e, q]; exact h.sb.2)
  exact h.fields hn (fun _ _ => rfl) (fun c hc => h.new c (Nat.le_trans hn hc)) hg (h.ord.keep hn (key _ (by decide)) fun _ _ => rfl) (h.knd.keep hn (key _ (by decide)) fun _ _ => rfl) fun c hc q _ _ => key (o c) q c hc rfl
theorem open_ok (h : Sc o m sb mb x L P ov kv) (hd : 1 ≤ x.D ∧ x.D < 1000000) : ∃ m1, run U 11 [.ptr sb 0] m = some (.ret (.tuple []) m1) ∧ Sc o m1 sb mb x.open_ L P ov kv ∧ Stp o m o m1 := by
  have hg := h.get
  have hb := h.sb.1
  have hmd := made_ok h hd.1
  have hw : IntKind.i64.wrap (x.D + 1) = x.D + 1 := wrap_i64 (by omega) (by omega)
  rw [run_p2 (by simp [F_scope_Scopes_Open])]
  simp +contextual -implicitDefEqProofs (maxSteps := 1000000) (maxDischargeDepth := 8) only [F_scope_Scopes_Open, hmd, hg, hb, hw, zz0, zz1, zz2, zz3, zz4, zz5, zz6, zz7, zz8, zz9, argsF, reduceIte, reduceCtorEq, Nat.reduceEqDiff, Nat.reduceBEq, Nat.reduceAdd, Int.reduceLT, Int.reduceLE, Int.reduceEq, Int.reduceToNat, Int.reduceNeg, Nat.reduceLeDiff, Int.reducePow, implies_true, UInt8.reduceToNat, Int.reduceSub, Int.reduceAdd, Nat.reduceLT, Nat.reduceMul, Nat.reduceSub, Nat.reduceBNe]
  exact ⟨_, rfl, h.depth (D' := x.D + 1) (by first | exact Nat.le_refl _ | exact le_nb) (by first | exact get_set_eq | (rw [get_bump, get_set_eq])) fun c hc hne => by first | exact get_set_ne hne | (rw [get_bump, get_set_ne hne])⟩
end
end Go.Proofs.Ytjegondbhejpcaa.Ev
end
section
namespace Go.Proofs.Ytjegondbhejpcaa.Ev
open Go
set_option linter.unusedSimpArgs false
set_option linter.unusedVariables false
set_option maxRecDepth 10000
set_option maxHeartbeats 4000000
section
variable {o : Nat → Part} {m m' : Mem} {sb mb : Nat} {x : Mo} {L : List (Txt × EV)} {P : Txt → EV} {ov kv : EV}
theorem made_all (hd : 1 ≤ x.D) : ∀ M : Mem, M.get sb = .cells [.map mb, ov, kv, .int .i64 x.D] 4 t_scope_Scopes false → sb < M.next → run U 21 [.ptr sb 0] M = some (.ret (.bool true) (bump M 0)) := fun M h1 h2 => by
  rw [look_scope_Scopes_made]; exact made_at h1 h2 hd
/-- What last tells, in any case. -/
theorem last_any (h : Sc o m sb mb x L P ov kv) (hd : 1 ≤ x.D) (hl : x.V.length < 1000000) (s : Txt) : ∃ (M : Mem) (a b c : Int) (is : Bool), run U 20 [.ptr sb 0, .str s] m = some (.ret (.tuple [.agg [.int .i64 a, .int .i64 b, .int .i64 c], .bool is]) M) ∧ m.next ≤ M.next ∧ Keeps m M ∧ ((ofN s x.V = [] ∧ is = false) ∨ ∃ l v, ofN s x.V = l ++ [v] ∧ is = true ∧ a = v.slot ∧ b = v.kind ∧ c = v.block) := by
  rw [look_scope_Scopes_last]
  by_cases hs : ofN s x.V = []
  · obtain ⟨k, e⟩ := last_no h hd hs
    exact ⟨_, _, _, _, _, e, le_nb, keeps_refl, .inl ⟨hs, rfl⟩⟩
  · have e0 := List.dropLast_concat_getLast hs
    have hll : (ofN s x.V).length ≤ x.V.length := List.length_filter_le ..
    obtain ⟨k, e⟩ := last_yes h hd (l := (ofN s x.V).dropLast) (v := (ofN s x.V).getLast hs) e0.symm (by rw [List.length_dropLast]; omega)
    exact ⟨_, _, _, _, _, e, le_nb, keeps_refl, .inr ⟨_, _, e0.symm, rfl, rfl, rfl, rfl⟩⟩
theorem bad_iff {s : Txt} {k : Int} {is : Bool} {a b c : Int} (h : (ofN s x.V = [] ∧ is = false) ∨ ∃ l v, ofN s x.V = l ++ [v] ∧ is = true ∧ a = v.slot ∧ b = v.kind ∧ c = v.block) : x.bad s k ↔ ((k < 1 ∨ 3 < k) ∨ (is = true ∧ c = x.D)) := by
  unfold Mo.bad
  rcases h with ⟨h, rfl⟩ | ⟨l, v, h, rfl, _, _, rfl⟩
  · rw [h]; simp
  · rw [h]; simp
theorem new_of (h : ∀ c, m.next ≤ c → o c = .other) {p : Part} (hn : m.next < m'.next) : ∀ c, m'.next ≤ c → (if c = m.next then p else o c) = .other := fun c hc => by rw [if_neg (by omega)]; exact h c (by omega)
section
variable {D : Int} {N : List Txt} {F : Txt → List Pv} {K : List Int}
theorem Sc3.add_row (h : Sc3 o m sb mb D N F K L P ov kv) {s : Txt} {w : EV} (hw : (F s = [] ∧ w = .nilslice) ∨ (F s ≠ [] ∧ w = P s)) {v : Pv} {b0 : Nat} (hx : m.source 3 (.slice b0 0 1 (some 1)) = some (1, plc v)) (hr : (F s).length < 1000000) :
    ∃ M2, evAppend m 55 3 w (.slice b0 0 1 (some 1)) = some (.slice (nb m.next 0) 0 ((F s).length + 1) none, M2) ∧ M2.get mb = m.get mb ∧ M2.get sb = m.get sb ∧ m.next ≤ M2.next ∧ (∀ c, c < m.next → o c = .other → M2.get c = m.get c) ∧
      Sc3 (fun c => if c = m.next then .row s else o c) (M2.set mb (.map (ents (setL s (.slice (nb m.next 0) 0 ((F s).length + 1) none) L)))) sb mb D N (fun t => if t = s then F s ++ [v] else F t) K (setL s (.slice (nb m.next 0) 0 ((F s).length + 1) none) L) (fun t => if t = s then .slice (nb m.next 0) 0 ((F s).length + 1) none else P t) ov kv ∧
      Stp o m (fun c => if c = m.next then .row s else o c) (M2.set mb (.map (ents (setL s (.slice (nb m.next 0) 0 ((F s).length + 1) none) L)))) := by
  have hv : Vec o m (.row s) w (plcs (F s)) (F s).length 3 := by
    rcases hw with ⟨h0, rfl⟩ | ⟨h0, rfl⟩
    · rw [h0]; exact .nil
    · exact h.row s h0
  obtain ⟨a1, a2, a3⟩ := hv.append (e := 55) hx rfl (by unfold room; omega)
  have hsb := h.sb
  have hmb := h.mb
  have hne : sb ≠ mb := fun q => by have := hsb.2; rw [q, hmb.2] at this; cases this
  have hgn : m.next < (grow m w 55 3 (plcs (F s) ++ plc v)).next := by rw [grow_next]; unfold nb; omega
  have g1 := a2 mb hmb.1 (by rw [hmb.2]; simp)
  have g2 := a2 sb hsb.1 (by rw [hsb.2]; simp)
  refine ⟨_, a1, g1, g2, Nat.le_of_lt hgn, fun c hc hp => a2 c hc (by rw [hp]; simp), ?_⟩
  refine h.entry (l := F s ++ [v]) (by rw [next_set]; omega) (fun c hc => if_neg (by omega)) (new_of h.new (by rw [next_set]; omega)) get_set_eq (nodup_setL h.nd) (fun s' => by rw [getL_set, if_neg (by simp : ¬ F s ++ [v] = [])]) (fun _ => ?_) fun c hc q1 q2 => ?_
  · rw [plcs_snoc, List.length_append, List.length_singleton]
    exact a3.keep (by rw [next_set]; exact Nat.le_refl _) (fun c hc hp => get_set_ne fun q => by
      rw [q] at hp
      by_cases e : mb = m.next
      · have := hmb.1; omega
      · rw [if_neg e, hmb.2] at hp; cases hp) fun _ _ => rfl
  · rw [get_set_ne (fun q : c = mb => q1 (by rw [q]; exact hmb.2)), a2 c hc q2]
theorem strs_snoc (N : List Txt) (s : Txt) : strs (N ++ [s]) = strs N ++ [.str s] := by simp [strs]
theorem ints_snoc (K : List Int) (k : Int) : ints (K ++ [k]) = ints K ++ [.int .i64 k] := by simp [ints]
theorem Sc3.add_ord (h : Sc3 o m sb mb D N F K L P ov kv) {s : Txt} {b0 : Nat} (hx : m.source 1 (.slice b0 0 1 (some 1)) = some (1, [.str s])) (hr : N.length < 1000000) :
    ∃ M2, evAppend m 9 1 ov (.slice b0 0 1 (some 1)) = some (.slice (nb m.next 0) 0 (N.length + 1) none, M2) ∧ M2.get sb = m.get sb ∧ m.next ≤ M2.next ∧ (∀ c, c < m.next → o c = .other → M2.get c = m.get c) ∧
      Sc3 (fun c => if c = m.next then .ord else o c) (M2.set sb (.cells [.map mb, .slice (nb m.next 0) 0 (N.length + 1) none, kv, .int .i64 D] 4 t_scope_Scopes false)) sb mb D (N ++ [s]) F K L P (.slice (nb m.next 0) 0 (N.length + 1) none) kv ∧
      Stp o m (fun c => if c = m.next then .ord else o c) (M2.set sb (.cells [.map mb, .slice (nb m.next 0) 0 (N.length + 1) none, kv, .int .i64 D] 4 t_scope_Scopes false)) := by
  obtain ⟨a1, a2, a3⟩ := h.ord.append (e := 9) hx rfl (by unfold room; omega)
  have hsb := h.sb
  have hgn : m.next < (grow m ov 9 1 (strs N ++ [.str s])).next := by rw [grow_next]; unfold nb; omega
  refine ⟨_, a1, a2 sb hsb.1 (by rw [hsb.2]; simp), Nat.le_of_lt hgn, fun c hc hp => a2 c hc (by rw [hp]; simp), ?_⟩
  have hk : ∀ c, c < m.next → o c ≠ .box → o c ≠ .ord → ((grow m ov 9 1 (strs N ++ [.str s])).set sb (.cells [.map mb, .slice (nb m.next 0) 0 (N.length + 1) none, kv, .int .i64 D] 4 t_scope_Scopes false)).get c = m.get c := fun c hc q1 q2 => by
    rw [get_set_ne (fun q : c = sb => q1 (by rw [q]; exact hsb.2)), a2 c hc q2]
  refine h.fields (by rw [next_set]; omega) (fun c hc => if_neg (by omega)) (new_of h.new (by rw [next_set]; omega)) get_set_eq ?_ (h.knd.keep (by rw [next_set]; omega) (fun c hc hp => hk c hc (by rw [hp]; simp) (by rw [hp]; simp)) fun c hc => if_neg (by omega)) fun c hc q1 q2 _ => hk c hc q1 q2
  rw [strs_snoc, List.length_append, List.length_singleton]
  exact a3.keep (by rw [next_set]; exact Nat.le_refl _) (fun c hc hp => get_set_ne fun q => by
      rw [q] at hp
      by_cases e : sb = m.next
      · have := hsb.1; omega
      · rw [if_neg e, hsb.2] at hp; cases hp) fun _ _ => rfl
theorem Sc3.add_knd (h : Sc3 o m sb mb D N F K L P ov kv) {k : Int} {b0 : Nat} (hx : m.source 1 (.slice b0 0 1 (some 1)) = some (1, [.int .i64 k])) (hr : K.length < 1000000) :
    ∃ M2, evAppend m 3 1 kv (.slice b0 0 1 (some 1)) = some (.slice (nb m.next 0) 0 (K.length + 1) none, M2) ∧ M2.get sb = m.get sb ∧ m.next ≤ M2.next ∧ (∀ c, c < m.next → o c = .other → M2.get c = m.get c) ∧
      Sc3 (fun c => if c = m.next then .knd else o c) (M2.set sb (.cells [.map mb, ov, .slice (nb m.next 0) 0 (K.length + 1) none, .int .i64 D] 4 t_scope_Scopes false)) sb mb D N F (K ++ [k]) L P ov (.slice (nb m.next 0) 0 (K.length + 1) none) ∧
      Stp o m (fun c => if c = m.next then .knd else o c) (M2.set sb (.cells [.map mb, ov, .slice (nb m.next 0) 0 (K.length + 1) none, .int .i64 D] 4 t_scope_Scopes false)) := by
  obtain ⟨a1, a2, a3⟩ := h.knd.append (e := 3) hx rfl (by unfold room; omega)
  have hsb := h.sb
  have hgn : m.next < (grow m kv 3 1 (ints K ++ [.int .i64 k])).next := by rw [grow_next]; unfold nb; omega
  refine ⟨_, a1, a2 sb hsb.1 (by rw [hsb.2]; simp), Nat.le_of_lt hgn, fun c hc hp => a2 c hc (by rw [hp]; simp), ?_⟩
  have hk : ∀ c, c < m.next → o c ≠ .box → o c ≠ .knd → ((grow m kv 3 1 (ints K ++ [.int .i64 k])).set sb (.cells [.map mb, ov, .slice (nb m.next 0) 0 (K.length + 1) none, .int .i64 D] 4 t_scope_Scopes false)).get c = m.get c := fun c hc q1 q2 => by
    rw [get_set_ne (fun q : c = sb => q1 (by rw [q]; exact hsb.2)), a2 c hc q2]
  refine h.fields (by rw [next_set]; omega) (fun c hc => if_neg (by omega)) (new_of h.new (by rw [next_set]; omega)) get_set_eq (h.ord.keep (by rw [next_set]; omega) (fun c hc hp => hk c hc (by rw [hp]; simp) (by rw [hp]; simp)) fun c hc => if_neg (by omega)) ?_ fun c hc q1 _ q2 => hk c hc q1 q2
  rw [ints_snoc, List.length_append, List.length_singleton]
  exact a3.keep (by rw [next_set]; exact Nat.le_refl _) (fun c hc hp => get_set_ne fun q => by
      rw [q] at hp
      by_cases e : sb = m.next
      · have := hsb.1; omega
      · rw [if_neg e, hsb.2] at hp; cases hp) fun _ _ => rfl
end
end
end Go.Proofs.Ytjegondbhejpcaa.Ev
end
section
namespace Go.Proofs.Ytjegondbhejpcaa.Ev
open Go
set_option linter.unusedSimpArgs false
set_option linter.unusedVariables false
set_option maxRecDepth 10000
set_option maxHeartbeats 4000000
section
variable {o : Nat → Part} {m m' : Mem} {sb mb : Nat} {x : Mo} {L : List (Txt × EV)} {P : Txt → EV} {ov kv : EV}
theorem kv_len (h : Sc o m sb mb x L P ov kv) : ∀ M : Mem, lenE kv M = some (.val (.int .i64 (x.K.length : Int)) M) := fun M => by
  rcases h.knd.is with ⟨rfl, q2⟩ | ⟨b, t, rest, rfl, _⟩
  · rw [q2]; rfl
  · rfl
theorem declare_no (h : Sc o m sb mb x L P ov kv) (hd : 1 ≤ x.D) (hl : x.V.length < 1000000) {s : Txt} {k : Int} (hbad : x.bad s k) : ∃ m1, run U 15 [.ptr sb 0, .str s, .int .i64 k] m = some (.ret (.tuple [.int .i64 0, .bool false]) m1) ∧ Sc o m1 sb mb x L P ov kv ∧ Stp o m o m1 := by
  obtain ⟨M, a, b, c, is, e, hn, hk, hcs⟩ := last_any h hd hl s
  rw [bad_iff (x := x) hcs] at hbad
  have hM := (h.keep hn hk).1
  have hmd := made_all (sb := sb) (mb := mb) (ov := ov) (kv := kv) hd
  have hg := hM.get
  have hb := hM.sb.1
  generalize hX : run U 15 [.ptr sb 0, .str s, .int .i64 k] m = X
  rw [run_p2 (by simp [F_scope_Scopes_Declare])] at hX
  have fin : ∀ m1, m.next ≤ m1.next → Keeps m m1 → X = some (.ret (.tuple [.int .i64 0, .bool false]) m1) → ∃ m1, X = some (.ret (.tuple [.int .i64 0, .bool false]) m1) ∧ Sc o m1 sb mb x L P ov kv ∧ Stp o m o m1 := fun m1 q1 q2 q3 => ⟨m1, q3, h.keep q1 q2⟩
  by_cases k1 : k < 1
  · simp +contextual -implicitDefEqProofs (maxSteps := 1000000) (maxDischargeDepth := 8) only [F_scope_Scopes_Declare, e, hmd, hg, hb, k1, zz0, zz1, zz2, zz3, zz4, zz5, zz6, zz7, zz8, zz9, argsF, reduceIte, reduceCtorEq, Nat.reduceEqDiff, Nat.reduceBEq, Nat.reduceAdd, Int.reduceLT, Int.reduceLE, Int.reduceEq, Int.reduceToNat, Int.reduceNeg, Nat.reduceLeDiff, Int.reducePow, implies_true, UInt8.reduceToNat, Int.reduceSub, Int.reduceAdd, Nat.reduceLT, Nat.reduceMul, Nat.reduceSub, Nat.reduceBNe] at hX
    exact fin _ (Nat.le_trans hn (by simp only [next_bump, next_ext, nb_nb]; exact le_nb)) (keeps_bump (keeps_ext' hk hn)) hX.symm
  by_cases k2 : 3 < k
  · simp +contextual -implicitDefEqProofs (maxSteps := 1000000) (maxDischargeDepth := 8) only [F_scope_Scopes_Declare, e, hmd, hg, hb, k1, k2, zz0, zz1, zz2, zz3, zz4, zz5, zz6, zz7, zz8, zz9, argsF, reduceIte, reduceCtorEq, Nat.reduceEqDiff, Nat.reduceBEq, Nat.reduceAdd, Int.reduceLT, Int.reduceLE, Int.reduceEq, Int.reduceToNat, Int.reduceNeg, Nat.reduceLeDiff, Int.reducePow, implies_true, UInt8.reduceToNat, Int.reduceSub, Int.reduceAdd, Nat.reduceLT, Nat.reduceMul, Nat.reduceSub, Nat.reduceBNe] at hX
    exact fin _ (Nat.le_trans hn (by simp only [next_bump, next_ext, nb_nb]; exact le_nb)) (keeps_bump (keeps_ext' hk hn)) hX.symm
  obtain ⟨rfl, rfl⟩ : is = true ∧ c = x.D := by
    rcases hbad with q | q
    · omega
    · exact q
  simp +contextual -implicitDefEqProofs (maxSteps := 1000000) (maxDischargeDepth := 8) only [F_scope_Scopes_Declare, e, hmd, hg, hb, k1, k2, zz0, zz1, zz2, zz3, zz4, zz5, zz6, zz7, zz8, zz9, argsF, reduceIte, reduceCtorEq, Nat.reduceEqDiff, Nat.reduceBEq, Nat.reduceAdd, Int.reduceLT, Int.reduceLE, Int.reduceEq, Int.reduceToNat, Int.reduceNeg, Nat.reduceLeDiff, Int.reducePow, implies_true, UInt8.reduceToNat, Int.reduceSub, Int.reduceAdd, Nat.reduceLT, Nat.reduceMul, Nat.reduceSub, Nat.reduceBNe] at hX
  exact fin _ (Nat.le_trans hn (by simp only [next_bump, next_ext, nb_nb]; exact le_nb)) (keeps_bump (keeps_ext' hk hn)) hX.symm
theorem declare_yes (h : Sc o m sb mb x L P ov kv) (hd : 1 ≤ x.D) (hl : x.V.length < 1000000) (hkl : x.K.length < 1000000) {s : Txt} {k : Int} (hbad : ¬ x.bad s k) : ∃ m1 o' L' P' ov' kv', run U 15 [.ptr sb 0, .str s, .int .i64 k] m = some (.ret (.tuple [.int .i64 (x.K.length : Int), .bool true]) m1) ∧ Sc o' m1 sb mb (x.add s k) L' P' ov' kv' ∧ Stp o m o' m1 := by
  obtain ⟨M, a, b, c, is, e, hn, hk, hcs⟩ := last_any h hd hl s
  rw [bad_iff (x := x) hcs] at hbad
  have hM := (h.keep hn hk).1
  have hmd := made_all (sb := sb) (mb := mb) (ov := ov) (kv := kv) hd
  have hg := hM.get
  have hb := hM.sb.1
  have hgm := hM.gm
  have hmb := hM.mb.1
  have hks := keys_ents (s := s) L
  have k1 : ¬ k < 1 := by omega
  have k2 : ¬ 3 < k := by omega
  have hlk := kv_len h
  generalize hX : run U 15 [.ptr sb 0, .str s, .int .i64 k] m = X
  rw [run_p2 (by simp [F_scope_Scopes_Declare])] at hX
  have hofl : (ofN s x.V).length < 1000000 := Nat.lt_of_le_of_lt (List.length_filter_le ..) hl
  rcases hcs with ⟨hs, rfl⟩ | ⟨l, v, hs, rfl, rfl, rfl, rfl⟩
  · have hfd : find (.str s) (ents L) = none := by rw [find_ents, hM.ent, if_pos hs]
    simp +contextual -implicitDefEqProofs (maxSteps := 1000000) (maxDischargeDepth := 8) only [F_scope_Scopes_Declare, e, hmd, hg, hb, hgm, hmb, hks, hfd, hlk, k1, k2, cond_true, zz0, zz1, zz2, zz3, zz4, zz5, zz6, zz7, zz8, zz9, argsF, reduceIte, reduceCtorEq, Nat.reduceEqDiff, Nat.reduceBEq, Nat.reduceAdd, Int.reduceLT, Int.reduceLE, Int.reduceEq, Int.reduceToNat, Int.reduceNeg, Nat.reduceLeDiff, Int.reducePow, implies_true, UInt8.reduceToNat, Int.reduceSub, Int.reduceAdd, Nat.reduceLT, Nat.reduceMul, Nat.reduceSub, Nat.reduceBNe] at hX
    generalize hM1 : Mem.mk (nb M.next 51) _ = M1 at hX
    have g1n : M1.next = M.next + 51 := by rw [← hM1]; rfl
    have g1k : ∀ c, c < M.next → M1.get c = M.get c := by
      intro c hc
      rw [← hM1]
      show (ext (Mem.mk _ _) _).get c = _
      rw [get_ext_old (show c < nb M.next 36 + 12 by unfold nb; omega)]
      show (ext M _).get c = _
      exact get_ext_old hc
    have g1b : M1.get (nb M.next 0) = .cells [.int .i64 (x.K.length : Int), .int .i64 k, .int .i64 x.D] 3 55 false := by
      rw [← hM1]
      show (ext (Mem.mk _ _) _).get _ = _
      rw [get_ext_old (show nb M.next 0 < nb M.next 36 + 12 by unfold nb; omega)]
      show (ext M _).get _ = _
      rw [get_ext_nb rfl (by simp)]; rfl
    have g1x : M1.get (nb (nb M.next 36 + 12) 0) = .cells [.int .i64 (x.K.length : Int), .int .i64 k, .int .i64 x.D] 3 55 false := by
      rw [← hM1]
      show (ext (Mem.mk _ _) _).get _ = _
      rw [get_ext_nb rfl (by simp)]; rfl
    have hx : M1.source 3 (.slice (nb (nb M.next 36 + 12) 0) 0 1 (some 1)) = some (1, plc ⟨s, x.D, x.K.length, k⟩) := by
      show (M1.row _ 0 (1 * 3)).map _ = _
      rw [row_all g1x rfl]; rfl
    clear hM1
    obtain ⟨t1, p1⟩ := hM.keep (m' := M1) (by omega) g1k
    obtain ⟨M2, a1, a2, a3, a4, a5, t2, p2⟩ := t1.add_row (s := s) (w := .nilslice) (.inl ⟨hs, rfl⟩) hx hofl
    generalize hM3 : M2.set mb _ = M3 at t2 p2
    generalize hL1 : setL s _ L = L1 at *
    have c2 : (fun c => if c = M1.next then Part.row s else o c) (nb M.next 0) = .other := by
      simp only; rw [if_neg (by unfold nb; omega)]; exact hM.new _ (by unfold nb; omega)
    have n3 : nb M.next 0 < M3.next := Nat.lt_of_lt_of_le (show nb M.next 0 < M1.next by unfold nb; omega) p2.n
    have g3b := (p2.k (nb M.next 0) (by unfold nb; omega) (hM.new _ (by unfold nb; omega))).trans g1b
    obtain ⟨t3, p3⟩ := t2.keep (m' := ext M3 [.cells [.str s] 1 9 false]) (by rw [next_ext]; exact le_nb) (fun c hc => get_ext_old hc)
    obtain ⟨M4, b1, b2, b3, b4, t4, p4⟩ := t3.add_ord (s := s) (source_new rfl) (by rw [List.length_map]; exact hl)
    have c4 : (fun c => if c = (ext M3 [Blk.cells [EV.str s] 1 9 false]).next then Part.ord else (fun c => if c = M1.next then Part.row s else o c) c) (nb M.next 0) = .other := by
      simp only; rw [if_neg (by rw [next_ext]; have : M3.next ≤ nb M3.next [Blk.cells [EV.str s] 1 9 false].length := le_nb; omega)]; exact c2
    have g5b := ((p3.trans p4).k (nb M.next 0) n3 c2).trans g3b
    have n5 := Nat.lt_of_lt_of_le n3 (p3.trans p4).n
    have hn4 : nb (ext M3 [Blk.cells [EV.str s] 1 9 false]).next 0 = nb M3.next 1 := by rw [next_ext]; rfl
    rw [hn4, List.length_map] at b1
    rw [hn4, List.length_map] at t4 p4 g5b n5
    generalize hM5 : M4.set sb _ = M5 at t4 p4 g5b n5
    obtain ⟨t5, p5⟩ := t4.keep (m' := ext M5 [.cells [.int .i64 k] 1 3 false]) (by rw [next_ext]; exact le_nb) (fun c hc => get_ext_old hc)
    obtain ⟨M6, d1, d2, d3, d4, t6, p6⟩ := t5.add_knd (k := k) (source_new rfl) hkl
    have g7b := ((p5.trans p6).k (nb M.next 0) n5 c4).trans g5b
    have hsm : ¬ sb = mb := fun q => by have := hM.sb.2; rw [q, hM.mb.2] at this; cases this
    have hn6 : nb (ext M5 [Blk.cells [EV.int .i64 k] 1 3 false]).next 0 = nb M5.next 1 := by rw [next_ext]; rfl
    rw [hn6] at d1
    rw [hn6] at t6 p6 g7b
    generalize hM7 : M6.set sb _ = M7 at t6 p6 g7b
    have e2 := a2.trans t1.gm
    have e3 := a3.trans t1.get
    have e4 := t2.get
    have e5 := b2.trans (t3.get)
    have e6 := t4.get
    have e7 := d2.trans t5.get
    have hnlen : (List.map Pv.name x.V).length = x.V.length := List.length_map ..
    simp +contextual -implicitDefEqProofs (maxSteps := 1000000) (maxDischargeDepth := 8) only [a1, e2, e3, update_ents, hL1, hM3, e4, hks, b1, e5, hM5, e6, d1, e7, hM7, g7b, hb, n3, n5, cond_true, zz0, zz1, zz2, zz3, zz4, zz5, zz6, zz7, zz8, zz9, argsF, reduceIte, reduceCtorEq, Nat.reduceEqDiff, Nat.reduceBEq, Nat.reduceAdd, Int.reduceLT, Int.reduceLE, Int.reduceEq, Int.reduceToNat, Int.reduceNeg, Nat.reduceLeDiff, Int.reducePow, implies_true, UInt8.reduceToNat, Int.reduceSub, Int.reduceAdd, Nat.reduceLT, Nat.reduceMul, Nat.reduceSub, Nat.reduceBNe] at hX
    have hF : (fun t => if t = s then ofN s x.V ++ [⟨s, x.D, x.K.length, k⟩] else ofN t x.V) = fun t => ofN t (x.add s k).V := by
      funext t
      simp only [Mo.add]
      rw [ofN_snoc]
      by_cases q : t = s
      · subst q; simp
      · rw [if_neg q, if_neg (fun e => q e.symm), List.append_nil]
    have hN : List.map Pv.name x.V ++ [s] = List.map Pv.name (x.add s k).V := by simp [Mo.add]
    have t7 := t6
    rw [hF, hN] at t7
    exact ⟨M7, _, _, _, _, _, hX.symm, t7, (h.keep hn hk).2.trans (p1.trans (p2.trans (p3.trans (p4.trans (p5.trans p6)))))⟩
  · have hfd : find (.str s) (ents L) = some (P s) := by rw [find_ents, hM.ent, if_neg (by rw [hs]; simp)]
    have k3 : ¬ v.block = x.D := fun q => hbad (.inr ⟨rfl, q⟩)
    simp +contextual -implicitDefEqProofs (maxSteps := 1000000) (maxDischargeDepth := 8) only [F_scope_Scopes_Declare, e, hmd, hg, hb, hgm, hmb, hks, hfd, hlk, k1, k2, k3, cond_true, zz0, zz1, zz2, zz3, zz4, zz5, zz6, zz7, zz8, zz9, argsF, reduceIte, reduceCtorEq, Nat.reduceEqDiff, Nat.reduceBEq, Nat.reduceAdd, Int.reduceLT, Int.reduceLE, Int.reduceEq, Int.reduceToNat, Int.reduceNeg, Nat.reduceLeDiff, Int.reducePow, implies_true, UInt8.reduceToNat, Int.reduceSub, Int.reduceAdd, Nat.reduceLT, Nat.reduceMul, Nat.reduceSub, Nat.reduceBNe] at hX
    generalize hM1 : Mem.mk (nb M.next 51) _ = M1 at hX
    have g1n : M1.next = M.next + 51 := by rw [← hM1]; rfl
    have g1k : ∀ c, c < M.next → M1.get c = M.get c := by
      intro c hc
      rw [← hM1]
      show (ext (Mem.mk _ _) _).get c = _
      rw [get_ext_old (show c < nb M.next 36 + 12 by unfold nb; omega)]
      show (ext M _).get c = _
      exact get_ext_old hc
    have g1b : M1.get (nb M.next 0) = .cells [.int .i64 (x.K.length : Int), .int .i64 k, .int .i64 x.D] 3 55 false := by
      rw [← hM1]
      show (ext (Mem.mk _ _) _).get _ = _
      rw [get_ext_old (show nb M.next 0 < nb M.next 36 + 12 by unfold nb; omega)]
      show (ext M _).get _ = _
      rw [get_ext_nb rfl (by simp)]; rfl
    have g1x : M1.get (nb (nb M.next 36 + 12) 0) = .cells [.int .i64 (x.K.length : Int), .int .i64 k, .int .i64 x.D] 3 55 false := by
      rw [← hM1]
      show (ext (Mem.mk _ _) _).get _ = _
      rw [get_ext_nb rfl (by simp)]; rfl
    have hx : M1.source 3 (.slice (nb (nb M.next 36 + 12) 0) 0 1 (some 1)) = some (1, plc ⟨s, x.D, x.K.length, k⟩) := by
      show (M1.row _ 0 (1 * 3)).map _ = _
      rw [row_all g1x rfl]; rfl
    clear hM1
    obtain ⟨t1, p1⟩ := hM.keep (m' := M1) (by omega) g1k
    obtain ⟨M2, a1, a2, a3, a4, a5, t2, p2⟩ := t1.add_row (s := s) (w := P s) (.inr ⟨by simp only [hs]; simp, rfl⟩) hx hofl
    generalize hM3 : M2.set mb _ = M3 at t2 p2
    generalize hL1 : setL s _ L = L1 at *
    have c2 : (fun c => if c = M1.next then Part.row s else o c) (nb M.next 0) = .other := by
      simp only; rw [if_neg (by unfold nb; omega)]; exact hM.new _ (by unfold nb; omega)
    have n3 : nb M.next 0 < M3.next := Nat.lt_of_lt_of_le (show nb M.next 0 < M1.next by unfold nb; omega) p2.n
    have g3b := (p2.k (nb M.next 0) (by unfold nb; omega) (hM.new _ (by unfold nb; omega))).trans g1b
    obtain ⟨t3, p3⟩ := t2.keep (m' := ext M3 [.cells [.str s] 1 9 false]) (by rw [next_ext]; exact le_nb) (fun c hc => get_ext_old hc)
    obtain ⟨M4, b1, b2, b3, b4, t4, p4⟩ := t3.add_ord (s := s) (source_new rfl) (by rw [List.length_map]; exact hl)
    have c4 : (fun c => if c = (ext M3 [Blk.cells [EV.str s] 1 9 false]).next then Part.ord else (fun c => if c = M1.next then Part.row s else o c) c) (nb M.next 0) = .other := by
      simp only; rw [if_neg (by rw [next_ext]; have : M3.next ≤ nb M3.next [Blk.cells [EV.str s] 1 9 false].length := le_nb; omega)]; exact c2
    have g5b := ((p3.trans p4).k (nb M.next 0) n3 c2).trans g3b
    have n5 := Nat.lt_of_lt_of_le n3 (p3.trans p4).n
    have hn4 : nb (ext M3 [Blk.cells [EV.str s] 1 9 false]).next 0 = nb M3.next 1 := by rw [next_ext]; rfl
    rw [hn4, List.length_map] at b1
    rw [hn4, List.length_map] at t4 p4 g5b n5
    generalize hM5 : M4.set sb _ = M5 at t4 p4 g5b n5
    obtain ⟨t5, p5⟩ := t4.keep (m' := ext M5 [.cells [.int .i64 k] 1 3 false]) (by rw [next_ext]; exact le_nb) (fun c hc => get_ext_old hc)
    obtain ⟨M6, d1, d2, d3, d4, t6, p6⟩ := t5.add_knd (k := k) (source_new rfl) hkl
    have g7b := ((p5.trans p6).k (nb M.next 0) n5 c4).trans g5b
    have hsm : ¬ sb = mb := fun q => by have := hM.sb.2; rw [q, hM.mb.2] at this; cases this
    have hn6 : nb (ext M5 [Blk.cells [EV.int .i64 k] 1 3 false]).next 0 = nb M5.next 1 := by rw [next_ext]; rfl
    rw [hn6] at d1
    rw [hn6] at t6 p6 g7b
    generalize hM7 : M6.set sb _ = M7 at t6 p6 g7b
    have e2 := a2.trans t1.gm
    have e3 := a3.trans t1.get
    have e4 := t2.get
    have e5 := b2.trans (t3.get)
    have e6 := t4.get
    have e7 := d2.trans t5.get
    have hnlen : (List.map Pv.name x.V).length = x.V.length := List.length_map ..
    simp +contextual -implicitDefEqProofs (maxSteps := 1000000) (maxDischargeDepth := 8) only [a1, e2, e3, update_ents, hL1, hM3, e4, hks, b1, e5, hM5, e6, d1, e7, hM7, g7b, hb, n3, n5, cond_true, zz0, zz1, zz2, zz3, zz4, zz5, zz6, zz7, zz8, zz9, argsF, reduceIte, reduceCtorEq, Nat.reduceEqDiff, Nat.reduceBEq, Nat.reduceAdd, Int.reduceLT, Int.reduceLE, Int.reduceEq, Int.reduceToNat, Int.reduceNeg, Nat.reduceLeDiff, Int.reducePow, implies_true, UInt8.reduceToNat, Int.reduceSub, Int.reduceAdd, Nat.reduceLT, Nat.reduceMul, Nat.reduceSub, Nat.reduceBNe] at hX
    have hF : (fun t => if t = s then ofN s x.V ++ [⟨s, x.D, x.K.length, k⟩] else ofN t x.V) = fun t => ofN t (x.add s k).V := by
      funext t
      simp only [Mo.add]
      rw [ofN_snoc]
      by_cases q : t = s
      · subst q; simp
      · rw [if_neg q, if_neg (fun e => q e.symm), List.append_nil]
    have hN : List.map Pv.name x.V ++ [s] = List.map Pv.name (x.add s k).V := by simp [Mo.add]
    have t7 := t6
    rw [hF, hN] at t7
    exact ⟨M7, _, _, _, _, _, hX.symm, t7, (h.keep hn hk).2.trans (p1.trans (p2.trans (p3.trans (p4.trans (p5.trans p6)))))⟩
end
end Go.Proofs.Ytjegondbhejpcaa.Ev
end
section
namespace Go.Proofs.Ytjegondbhejpcaa.Ev
open Go
set_option linter.unusedSimpArgs false
set_option linter.unusedVariables false
set_option maxRecDepth 10000
set_option maxHeartbeats 4000000
section
variable {o : Nat → Part} {m m' : Mem} {sb mb : Nat} {D : Int} {N : List Txt} {F : Txt → List Pv} {K : List Int} {L : List (Txt × EV)} {P : Txt → EV} {ov kv : EV}
/-- The last name is struck. -/
theorem Sc3.cut_ord (h : Sc3 o m sb mb D (N) F K L P ov kv) {k : Nat} (hk : N.length = k + 1) : ∃ b t rest, ov = .slice b 0 (k + 1) none ∧ m.get b = .cells (strs N ++ rest) 1 t false ∧ b < m.next ∧
    Sc3 o (m.set sb (.cells [.map mb, .slice b 0 k none, kv, .int .i64 D] 4 t_scope_Scopes false)) sb mb D (N.take k) F K L P (.slice b 0 k none) kv ∧ Stp o m o (m.set sb (.cells [.map mb, .slice b 0 k none, kv, .int .i64 D] 4 t_scope_Scopes false)) := by
  obtain ⟨b, t, e, ⟨rest, hr⟩, hb, hp, hv⟩ := h.ord.cut (k := k) (by omega) (by omega)
  have hsb := h.sb
  rw [hk] at e
  have hkk : ∀ c, c < m.next → o c ≠ .box → (m.set sb (.cells [.map mb, .slice b 0 k none, kv, .int .i64 D] 4 t_scope_Scopes false)).get c = m.get c := fun c hc q => get_set_ne (fun e : c = sb => q (by rw [e]; exact hsb.2))
  refine ⟨b, t, rest, e, hr, hb, h.fields (Nat.le_refl _) (fun _ _ => rfl) h.new get_set_eq ?_ (h.knd.keep (Nat.le_refl _) (fun c hc hp => hkk c hc (by rw [hp]; simp)) fun _ _ => rfl) fun c hc q _ _ => hkk c hc q⟩
  have hl : (N.take k).length = k := by rw [List.length_take]; omega
  have e2 : strs (N.take k) = (strs N).take (k * 1) := by unfold strs; rw [List.map_take, Nat.mul_one]
  rw [hl, e2]
  exact hv.keep (Nat.le_refl _) (fun c hc hp => hkk c hc (by rw [hp]; simp)) fun _ _ => rfl
theorem cutE {e b n k : Nat} (h : k ≤ n) : evSlice e b 0 n none none (some (.int .i64 (k : Int))) none = some (.slice b 0 k none) := by
  unfold evSlice
  simp only [bound_cast h, bound_none]
  by_cases q : k = 0
  · subst q; simp
  · simp
/-- A name's last meaning is struck: others are left. -/
theorem Sc3.cut_row (h : Sc3 o m sb mb D N F K L P ov kv) {s : Txt} {l : List Pv} {v : Pv} (hs : F s = l ++ [v]) (h0 : l ≠ []) : ∃ b t rest, P s = .slice b 0 (l.length + 1) none ∧ m.get b = .cells (plcs (l ++ [v]) ++ rest) 3 t false ∧ b < m.next ∧
    Sc3 o (m.set mb (.map (ents (setL s (.slice b 0 l.length none) L)))) sb mb D N (fun t => if t = s then l else F t) K (setL s (.slice b 0 l.length none) L) (fun t => if t = s then .slice b 0 l.length none else P t) ov kv ∧ Stp o m o (m.set mb (.map (ents (setL s (.slice b 0 l.length none) L)))) := by
  have hrow := h.row s (by rw [hs]; simp)
  rw [hs, List.length_append, List.length_singleton] at hrow
  obtain ⟨b, t, e, ⟨rest, hr⟩, hb, hp, hv⟩ := hrow.cut (k := l.length) (by omega) (by omega)
  have hmb := h.mb
  have hkk : ∀ c, c < m.next → o c ≠ .map → (m.set mb (.map (ents (setL s (.slice b 0 l.length none) L)))).get c = m.get c := fun c hc q => get_set_ne (fun e : c = mb => q (by rw [e]; exact hmb.2))
  refine ⟨b, t, rest, e, hr, hb, h.entry (l := l) (Nat.le_refl _) (fun _ _ => rfl) h.new get_set_eq (nodup_setL h.nd) (fun s' => by rw [getL_set, if_neg h0]) (fun _ => ?_) fun c hc q _ => hkk c hc q⟩
  have e2 : plcs l = (plcs (l ++ [v])).take (l.length * 3) := by rw [plcs_snoc, ← plcs_len, List.take_left]
  rw [e2]
  exact hv.keep (Nat.le_refl _) (fun c hc hp => hkk c hc (by rw [hp]; simp)) fun _ _ => rfl
/-- A name's only meaning is struck. -/
theorem Sc3.del_row (h : Sc3 o m sb mb D N F K L P ov kv) {s : Txt} : Sc3 o (m.set mb (.map (ents (delL s L)))) sb mb D N (fun t => if t = s then [] else F t) K (delL s L) (fun t => if t = s then .nilslice else P t) ov kv ∧ Stp o m o (m.set mb (.map (ents (delL s L)))) := by
  have hmb := h.mb
  have hkk : ∀ c, c < m.next → o c ≠ .map → (m.set mb (.map (ents (delL s L)))).get c = m.get c := fun c hc q => get_set_ne (fun e : c = mb => q (by rw [e]; exact hmb.2))
  exact h.entry (l := []) (Nat.le_refl _) (fun _ _ => rfl) h.new get_set_eq (nodup_delL h.nd) (fun s' => by rw [getL_del h.nd]; simp) (fun q => absurd rfl q) fun c hc q _ => hkk c hc q
end
/-- Those that are left when the last one is struck. -/
theorem ofN_init (V : List Pv) (v : Pv) : (fun t => if t = v.name then ofN v.name V else ofN t (V ++ [v])) = fun t => ofN t V := by
  funext t
  by_cases q : t = v.name
  · rw [if_pos q, q]
  · rw [if_neg q, ofN_snoc, if_neg (fun e => q e.symm), List.append_nil]
section
variable {o : Nat → Part} {m m' : Mem} {sb mb : Nat} {x : Mo} {L : List (Txt × EV)} {P : Txt → EV} {ov kv : EV}
/-- Scopes, whatever else. -/
def Scs (o : Nat → Part) (m : Mem) (sb mb : Nat) (V : List Pv) (K : List Int) (D : Int) : Prop := ∃ L P ov kv, Sc o m sb mb ⟨V, K, D⟩ L P ov kv
theorem close_l0 {K : List Int} {D : Int} {V : List Pv} (hV : V.length < 1000000) (hD : 1 ≤ D) : ∀ (n : Nat) (fr : Fr) (m : Mem), n ≤ V.length → Scs o m sb mb (V.take n) K D → (∀ v ∈ V.drop n, D ≤ v.block) → fr.get 0 = .ptr sb 0 → fr.get 3 = .int .i64 (n : Int) → fr.defers = [] →
    ∃ fr' m' k, exec U (.loop F_scope_Scopes_Close_l0) fr m = some (.exit 0 fr' m') ∧ k ≤ V.length ∧ Scs o m' sb mb (V.take k) K D ∧ Stp o m o m' ∧ (∀ v ∈ V.drop k, D ≤ v.block) ∧ (∀ v ∈ (V.take k).getLast?, v.block < D) ∧ fr'.get 0 = .ptr sb 0 ∧ fr'.defers = [] := by
  intro n
  induction n with
  | zero =>
    intro fr m hn hS hv h0 h3 hd
    have hc : ¬ (0 : Int) < 0 := by decide
    generalize hX : exec U (.loop F_scope_Scopes_Close_l0) fr m = X
    rw [exec_loop] at hX
    generalize exec U (.loop F_scope_Scopes_Close_l0) = KK at hX
    have h3' : fr.get 3 = .int .i64 0 := h3
    simp +contextual -implicitDefEqProofs (maxSteps := 1000000) (maxDischargeDepth := 8) only [F_scope_Scopes_Close_l0, h0, h3', hd, hc, zz0, zz1, zz2, zz3, zz4, zz5, zz6, zz7, zz8, zz9, argsF, reduceIte, reduceCtorEq, Nat.reduceEqDiff, Nat.reduceBEq, Nat.reduceAdd, Int.reduceLT, Int.reduceLE, Int.reduceEq, Int.reduceToNat, Int.reduceNeg, Nat.reduceLeDiff, Int.reducePow, implies_true, UInt8.reduceToNat, Int.reduceSub, Int.reduceAdd, Nat.reduceLT, Nat.reduceMul, Nat.reduceSub, Nat.reduceBNe] at hX
    subst hX
    exact ⟨_, _, 0, rfl, hn, hS, .refl, hv, fun v hv => by simp at hv, by simp only [h0, get_set', selE_t, selE_f, Nat.reduceBEq, set_defers, fr00_get, fr00_defers, put_some, put_none ], by simp only [hd, get_set', selE_t, selE_f, Nat.reduceBEq, set_defers, fr00_get, fr00_defers, put_some, put_none ]⟩
  | succ n ih =>
    intro fr m hn hS hv h0 h3 hd
    obtain ⟨L, P, ov, kv, h⟩ := hS
    have hc : (0 : Int) < ((n + 1 : Nat) : Int) := by omega
    have hnl : n < V.length := by omega
    have e0 : V.take (n + 1) = V.take n ++ [V[n]] := List.take_succ_eq_append_getElem hnl
    have hlen : (V.take (n + 1)).length = n + 1 := by rw [List.length_take]; omega
    generalize hv0 : V[n] = v at *
    have hof : ofN v.name (V.take (n + 1)) = ofN v.name (V.take n) ++ [v] := by rw [e0, ofN_snoc, if_pos rfl]
    have hol : (ofN v.name (V.take n)).length < 1000000 := by
      have : (ofN v.name (V.take n)).length ≤ (V.take n).length := List.length_filter_le ..
      rw [List.length_take] at this; omega
    obtain ⟨k1, e1⟩ := last_yes h hD hof hol
    rw [← look_scope_Scopes_last] at e1
    have hM1n : m.next ≤ (bump m k1).next := le_nb
    have hM1k : Keeps m (bump m k1) := keeps_refl
    generalize bump m k1 = M1 at e1 hM1n hM1k
    obtain ⟨t1, p1⟩ := h.keep hM1n hM1k
    have hg := h.get
    have hb := h.sb.1
    obtain ⟨b, t, rest, eo, ho, hbn, _, _⟩ := h.cut_ord (k := n) (by rw [List.length_map]; exact hlen)
    have w1 : IntKind.i64.wrap (((n + 1 : Nat) : Int) - 1) = (n : Int) := by rw [wrap_i64 (by omega) (by omega)]; omega
    have hlt : n < n + 1 := Nat.lt_succ_self n
    have hcell : (strs (List.map Pv.name (V.take (n + 1))) ++ rest)[n]? = some (.str v.name) := by
      rw [e0, List.map_append, List.getElem?_append_left (by simp [strs]; omega)]
      unfold strs
      rw [List.getElem?_map, List.getElem?_append_right (by rw [List.length_map, List.length_take]; omega), List.length_map, List.length_take]
      have : n - min n V.length = 0 := by omega
      rw [this]; rfl
    have hpv : plc v = [.int .i64 v.slot, .int .i64 v.kind, .int .i64 v.block] := rfl
    rw [hpv] at e1
    subst eo
    have hg1 := t1.get
    have hb1 := t1.sb.1
    by_cases hbl : v.block < D
    · generalize hX : exec U (.loop F_scope_Scopes_Close_l0) fr m = X
      rw [exec_loop] at hX
      generalize exec U (.loop F_scope_Scopes_Close_l0) = KK at hX
      simp +contextual -implicitDefEqProofs (maxSteps := 1000000) (maxDischargeDepth := 8) only [F_scope_Scopes_Close_l0, h0, h3, hd, hc, hg, hb, w1, hlt, ho, hcell, hbn, e1, hg1, hb1, hbl, idx_cast, Nat.zero_add, Nat.mul_one, zz0, zz1, zz2, zz3, zz4, zz5, zz6, zz7, zz8, zz9, argsF, reduceIte, reduceCtorEq, Nat.reduceEqDiff, Nat.reduceBEq, Nat.reduceAdd, Int.reduceLT, Int.reduceLE, Int.reduceEq, Int.reduceToNat, Int.reduceNeg, Nat.reduceLeDiff, Int.reducePow, implies_true, UInt8.reduceToNat, Int.reduceSub, Int.reduceAdd, Nat.reduceLT, Nat.reduceMul, Nat.reduceSub, Nat.reduceBNe] at hX
      subst hX
      have hMx : m.next ≤ (bump (ext M1 [Blk.cells [EV.int IntKind.i64 v.slot, EV.int IntKind.i64 v.kind, EV.int IntKind.i64 v.block] 3 55 false]) 7).next := by simp only [next_bump, next_ext, nb_nb]; exact Nat.le_trans hM1n le_nb
      obtain ⟨t2, p2⟩ := h.keep hMx (keeps_bump (keeps_ext' hM1k hM1n))
      refine ⟨_, _, n + 1, rfl, hn, ⟨L, P, _, kv, t2⟩, p2, hv, fun u hu => ?_, by simp only [h0, get_set', selE_t, selE_f, Nat.reduceBEq, set_defers, fr00_get, fr00_defers, put_some, put_none ], by simp only [hd, get_set', selE_t, selE_f, Nat.reduceBEq, set_defers, fr00_get, fr00_defers, put_some, put_none ]⟩
      rw [e0, List.getLast?_append] at hu
      simp at hu
      rw [← hu]; exact hbl
    · have hbn1 : b < M1.next := Nat.lt_of_lt_of_le hbn hM1n
      have ho1 := (hM1k b hbn).trans ho
      have hks := keys_ents (s := v.name) L
      have hfd : find (.str v.name) (ents L) = some (P v.name) := by rw [find_ents, h.ent, if_neg (by rw [hof]; simp)]
      have hle : n ≤ n + 1 := Nat.le_succ n
      obtain ⟨b2, tt, rest2, eo2, _, _, t2, p2⟩ := t1.cut_ord (k := n) (by rw [List.length_map]; exact hlen)
      obtain rfl : b = b2 := by cases eo2; rfl
      have hN : (List.map Pv.name (V.take (n + 1))).take n = List.map Pv.name (V.take n) := by rw [← List.map_take, List.take_take, Nat.min_eq_left hle]
      have hF1 : (fun t => ofN t (V.take (n + 1))) = fun t => ofN t (V.take n ++ [v]) := by rw [e0]
      have hdrop : ∀ u ∈ V.drop n, D ≤ u.block := fun u hu => by
        rw [List.drop_eq_getElem_cons hnl] at hu
        rcases List.mem_cons.1 hu with rfl | hu
        · rw [hv0]; omega
        · exact hv u hu
      have hg2 := t2.get
      have hgm2 := t2.gm
      have hb2 := t2.sb.1
      have hmb1 := t1.mb.1
      have finish : ∀ (m2 : Mem) (L2 : List (Txt × EV)) (P2 : Txt → EV), Sc3 o m2 sb mb D ((List.map Pv.name (V.take (n + 1))).take n) (fun t => if t = v.name then ofN v.name (V.take n) else ofN t (V.take (n + 1))) K L2 P2 (.slice b 0 n none) kv → Stp o (M1.set sb (.cells [.map mb, .slice b 0 n none, kv, .int .i64 D] 4 t_scope_Scopes false)) o m2 → ∀ (M' : Mem) (fr2 : Fr), m2.next ≤ M'.next → Keeps m2 M' →
          fr2.get 0 = .ptr sb 0 → fr2.get 3 = .int .i64 (n : Int) → fr2.defers = [] →
          ∃ fr' m' k, exec U (.loop F_scope_Scopes_Close_l0) fr2 M' = some (.exit 0 fr' m') ∧ k ≤ V.length ∧ Scs o m' sb mb (V.take k) K D ∧ Stp o m o m' ∧ (∀ v ∈ V.drop k, D ≤ v.block) ∧ (∀ v ∈ (V.take k).getLast?, v.block < D) ∧ fr'.get 0 = .ptr sb 0 ∧ fr'.defers = [] := by
        intro m2 L2 P2 t3 p3 M' fr2 q1 q2 q0 q3 qd
        obtain ⟨t4, p4⟩ := t3.keep (m' := M') q1 q2
        have e5 : (fun t => if t = v.name then ofN v.name (V.take n) else ofN t (V.take (n + 1))) = fun t => ofN t (V.take n) := by
          rw [← ofN_init (V.take n) v, ← e0]
        rw [hN, e5] at t4
        obtain ⟨fr', m', k, r1, r2, r3, r4, r5⟩ := ih fr2 _ (by omega) ⟨L2, P2, _, kv, t4⟩ hdrop q0 q3 qd
        exact ⟨fr', m', k, r1, r2, r3, p1.trans (p2.trans (p3.trans (p4.trans r4))), r5⟩
      by_cases hz : ofN v.name (V.take n) = []
      · obtain ⟨bp, tp, rp, ep, hrp, hbpn⟩ : ∃ bb t rest, P v.name = .slice bb 0 1 none ∧ (M1.set sb (.cells [.map mb, .slice b 0 n none, kv, .int .i64 D] 4 t_scope_Scopes false)).get bb = .cells rest 3 t false ∧ bb < M1.next := by
          have hr := t2.row v.name (by simp only [hof]; simp)
          simp only [hof, hz] at hr
          rcases hr.is with ⟨_, q⟩ | ⟨b, t, rest, q1, q2, _, q3⟩
          · cases q
          · exact ⟨b, t, _, q1, q3, q2⟩
        rw [ep] at hfd
        have hlen1 : ¬ (1 : Int) < 1 := by decide
        obtain ⟨t3, p3⟩ := t2.del_row (s := v.name)
        rw [hz] at finish
        generalize hX : exec U (.loop F_scope_Scopes_Close_l0) fr m = X
        rw [exec_loop] at hX
        generalize hKK : exec U (.loop F_scope_Scopes_Close_l0) = KK at hX
        simp +contextual -implicitDefEqProofs (maxSteps := 1000000) (maxDischargeDepth := 8) only [F_scope_Scopes_Close_l0, h0, h3, hd, hc, hg, hb, w1, hlt, ho, hcell, hbn, e1, hg1, hb1, hbl, hbn1, ho1, hg2, hgm2, hmb1, hks, hfd, hlen1, hle, cutE hle, erase_ents, idx_cast, Nat.zero_add, Nat.mul_one, cond_true, zz0, zz1, zz2, zz3, zz4, zz5, zz6, zz7, zz8, zz9, argsF, reduceIte, reduceCtorEq, Nat.reduceEqDiff, Nat.reduceBEq, Nat.reduceAdd, Int.reduceLT, Int.reduceLE, Int.reduceEq, Int.reduceToNat, Int.reduceNeg, Nat.reduceLeDiff, Int.reducePow, implies_true, UInt8.reduceToNat, Int.reduceSub, Int.reduceAdd, Nat.reduceLT, Nat.reduceMul, Nat.reduceSub, Nat.reduceBNe] at hX
        subst hKK
        subst hX
        exact finish _ _ _ t3 p3 _ _ (by simp only [next_bump, next_ext, nb_nb]; exact le_nb) (keeps_bump (by first | exact keeps_ext | exact keeps_bump keeps_ext)) (by simp only [h0, get_set', selE_t, selE_f, Nat.reduceBEq, set_defers, fr00_get, fr00_defers, put_some, put_none ]) (by simp only [get_set', selE_t, selE_f, Nat.reduceBEq, set_defers, fr00_get, fr00_defers, put_some, put_none ]) (by simp only [hd, get_set', selE_t, selE_f, Nat.reduceBEq, set_defers, fr00_get, fr00_defers, put_some, put_none ])
      · have t2' := t2
        obtain ⟨bp, tp, rp, ep, hrp, hbpn, t3, p3⟩ := t2.cut_row hof hz
        have hbpn' : bp < M1.next := hbpn
        rw [ep] at hfd
        have hlen1 : (1 : Int) < (((ofN v.name (V.take n)).length + 1 : Nat) : Int) := by have := List.length_pos_iff.2 hz; omega
        have w3 : IntKind.i64.wrap ((((ofN v.name (V.take n)).length + 1 : Nat) : Int) - 1) = ((ofN v.name (V.take n)).length : Int) := by rw [wrap_i64 (by omega) (by omega)]; omega
        generalize hX : exec U (.loop F_scope_Scopes_Close_l0) fr m = X
        rw [exec_loop] at hX
        generalize hKK : exec U (.loop F_scope_Scopes_Close_l0) = KK at hX
        simp +contextual -implicitDefEqProofs (maxSteps := 1000000) (maxDischargeDepth := 8) only [F_scope_Scopes_Close_l0, h0, h3, hd, hc, hg, hb, w1, hlt, ho, hcell, hbn, e1, hg1, hb1, hbl, hbn1, ho1, hg2, hgm2, hmb1, hks, hfd, hlen1, w3, hrp, hbpn', hle, cutE hle, cutE (Nat.le_succ _), update_ents, idx_cast, Nat.zero_add, Nat.mul_one, cond_true, zz0, zz1, zz2, zz3, zz4, zz5, zz6, zz7, zz8, zz9, argsF, reduceIte, reduceCtorEq, Nat.reduceEqDiff, Nat.reduceBEq, Nat.reduceAdd, Int.reduceLT, Int.reduceLE, Int.reduceEq, Int.reduceToNat, Int.reduceNeg, Nat.reduceLeDiff, Int.reducePow, implies_true, UInt8.reduceToNat, Int.reduceSub, Int.reduceAdd, Nat.reduceLT, Nat.reduceMul, Nat.reduceSub, Nat.reduceBNe] at hX
        subst hKK
        subst hX
        exact finish _ _ _ t3 p3 _ _ (by simp only [next_bump, next_ext, nb_nb]; exact le_nb) (keeps_bump (by first | exact keeps_ext | exact keeps_bump keeps_ext)) (by simp only [h0, get_set', selE_t, selE_f, Nat.reduceBEq, set_defers, fr00_get, fr00_defers, put_some, put_none ]) (by simp only [get_set', selE_t, selE_f, Nat.reduceBEq, set_defers, fr00_get, fr00_defers, put_some, put_none ]) (by simp only [hd, get_set', selE_t, selE_f, Nat.reduceBEq, set_defers, fr00_get, fr00_defers, put_some, put_none ])
theorem ov_len (h : Sc o m sb mb x L P ov kv) : ∀ M : Mem, lenE ov M = some (.val (.int .i64 (x.V.length : Int)) M) := fun M => by
  have := h.ord.is
  rw [List.length_map] at this
  rcases this with ⟨rfl, q2⟩ | ⟨b, t, rest, rfl, _⟩
  · rw [q2]; rfl
  · rfl
theorem close_yes (h : Sc o m sb mb x L P ov kv) (hx : x.Ok) (hd : ¬ x.D < 2) (hd2 : x.D < 1000000) (hl : x.V.length < 1000000) : ∃ m1 L' P' ov' kv', run U 13 [.ptr sb 0] m = some (.ret (.bool true) m1) ∧ Sc o m1 sb mb x.close L' P' ov' kv' ∧ Stp o m o m1 := by
  have hdp := depth_ok h
  have hg := h.get
  have hb := h.sb.1
  have hlen := ov_len h
  obtain ⟨t0, p0⟩ := h.keep (m' := bump m 0) le_nb (fun _ _ => rfl)
  have hw : IntKind.i64.wrap (x.D - 1) = x.D - 1 := wrap_i64 (by omega) (by omega)
  generalize hX : run U 13 [.ptr sb 0] m = X
  rw [run_p2 (by simp [F_scope_Scopes_Close])] at hX
  generalize hL : exec (UT B Ev.K) (ICode.loop F_scope_Scopes_Close_l0) = L0 at hX
  simp +contextual -implicitDefEqProofs (maxSteps := 1000000) (maxDischargeDepth := 8) only [F_scope_Scopes_Close, hdp, hd, hg, hb, hlen, zz0, zz1, zz2, zz3, zz4, zz5, zz6, zz7, zz8, zz9, argsF, reduceIte, reduceCtorEq, Nat.reduceEqDiff, Nat.reduceBEq, Nat.reduceAdd, Int.reduceLT, Int.reduceLE, Int.reduceEq, Int.reduceToNat, Int.reduceNeg, Nat.reduceLeDiff, Int.reducePow, implies_true, UInt8.reduceToNat, Int.reduceSub, Int.reduceAdd, Nat.reduceLT, Nat.reduceMul, Nat.reduceSub, Nat.reduceBNe] at hX
  subst hL
  generalize hY : exec _ (.loop F_scope_Scopes_Close_l0) _ _ = Y at hX
  have hV : x.V.take x.V.length = x.V := List.take_length
  generalize hF : Fr.set _ 3 _ = fr1 at hY
  obtain ⟨fr', m2, k, e1, hk, ⟨L2, P2, ov2, kv2, t1⟩, p1, hdr, hla, f0, fd⟩ := close_l0 (sb := sb) (mb := mb) (o := o) (K := x.K) (D := x.D) hl (by omega) x.V.length fr1 (bump m 0) (Nat.le_refl _) ⟨L, P, ov, kv, by rw [hV]; exact t0⟩ (by simp) (by subst hF; simp only [get_set', selE_t, selE_f, Nat.reduceBEq, set_defers, fr00_get, fr00_defers, put_some, put_none ]) (by subst hF; simp only [get_set', selE_t, selE_f, Nat.reduceBEq, set_defers, fr00_get, fr00_defers, put_some, put_none ]) (by subst hF; simp only [get_set', selE_t, selE_f, Nat.reduceBEq, set_defers, fr00_get, fr00_defers, put_some, put_none ])
  have hY' := hY.symm.trans e1
  subst hY'
  have hg2 := t1.get
  have hb2 := t1.sb.1
  simp +contextual -implicitDefEqProofs (maxSteps := 1000000) (maxDischargeDepth := 8) only [f0, fd, hg2, hb2, hw, zz0, zz1, zz2, zz3, zz4, zz5, zz6, zz7, zz8, zz9, argsF, reduceIte, reduceCtorEq, Nat.reduceEqDiff, Nat.reduceBEq, Nat.reduceAdd, Int.reduceLT, Int.reduceLE, Int.reduceEq, Int.reduceToNat, Int.reduceNeg, Nat.reduceLeDiff, Int.reducePow, implies_true, UInt8.reduceToNat, Int.reduceSub, Int.reduceAdd, Nat.reduceLT, Nat.reduceMul, Nat.reduceSub, Nat.reduceBNe] at hX
  obtain ⟨t2, p2⟩ := t1.depth (D' := x.D - 1) (m' := m2.set sb (.cells [.map mb, ov2, kv2, .int .i64 (x.D - 1)] 4 t_scope_Scopes false)) (Nat.le_refl _) get_set_eq fun c hc hne => get_set_ne hne
  have hfl := filter_take hx.rise k hk hdr hla
  refine ⟨_, L2, P2, ov2, kv2, hX.symm, ?_, p0.trans (p1.trans p2)⟩
  unfold Mo.close Sc
  simp only
  rw [hfl]
  exact t2
end
end Go.Proofs.Ytjegondbhejpcaa.Ev
end
section
namespace Go.Proofs.Ytjegondbhejpcaa.Ev
open Go
set_option linter.unusedSimpArgs false
set_option linter.unusedVariables false
set_option maxRecDepth 10000
set_option maxHeartbeats 4000000
def vc (v : Pv) : List EV := [.str v.name, .int .i64 v.block, .int .i64 v.slot, .int .i64 v.kind]
def vcs (l : List Pv) : List (List EV) := l.map vc
def kcs (l : List Int) : List (List EV) := l.map fun k => [.int .i64 k]
theorem kcs_len {l : List Int} : (kcs l).length = l.length := List.length_map ..
theorem kcs_els (l : List Int) : ∀ el ∈ kcs l, el.length = 1 := by intro el h; obtain ⟨t, _, rfl⟩ := List.mem_map.1 h; rfl
theorem kcs_plain (l : List Int) : ∀ el ∈ kcs l, plains el = true := by intro el h; obtain ⟨t, _, rfl⟩ := List.mem_map.1 h; rfl
theorem kcs_flat (l : List Int) : (kcs l).flatten = ints l := by
  induction l with
  | nil => rfl
  | cons a l ih => unfold kcs ints at ih ⊢; rw [List.map_cons, List.flatten_cons, ih]; rfl
/-- The document's scopes, asx they are handed on. -/
def moV (x : Mo) (a b : Bool) : EV := .agg [row a 0 4 (vcs x.V), row b 0 1 (kcs x.K), .int .i64 x.D]
section
variable {o : Nat → Part} {m m' : Mem} {sb mb : Nat} {x : Mo} {L : List (Txt × EV)} {P : Txt → EV} {ov kv : EV}
/-- Scopes made anew. -/
theorem new_ok (m : Mem) : ∃ m1 o sb mb L P ov kv, run U 7 [] m = some (.ret (.ptr sb 0) m1) ∧ Sc o m1 sb mb Mo.new L P ov kv ∧ m.next ≤ m1.next ∧ (∀ c, c < m.next → m1.get c = m.get c ∧ o c = .other) := by
  generalize hX : run U 7 [] m = X
  rw [run_p2 (by simp [F_scope_New])] at hX
  simp +contextual -implicitDefEqProofs (maxSteps := 1000000) (maxDischargeDepth := 8) only [F_scope_New, zz0, zz1, zz2, zz3, zz4, zz5, zz6, zz7, zz8, zz9, argsF, reduceIte, reduceCtorEq, Nat.reduceEqDiff, Nat.reduceBEq, Nat.reduceAdd, Int.reduceLT, Int.reduceLE, Int.reduceEq, Int.reduceToNat, Int.reduceNeg, Nat.reduceLeDiff, Int.reducePow, implies_true, UInt8.reduceToNat, Int.reduceSub, Int.reduceAdd, Nat.reduceLT, Nat.reduceMul, Nat.reduceSub, Nat.reduceBNe] at hX
  have hn : (ext m [.map [], .cells [.map (nb m.next 0), .nilslice, .nilslice, .int .i64 1] 4 37 false]).next = m.next + 2 := by rw [next_ext]; rfl
  have g0 : (ext m [.map [], .cells [.map (nb m.next 0), .nilslice, .nilslice, .int .i64 1] 4 37 false]).get (nb m.next 0) = .map [] := by rw [get_ext_nb rfl (by simp)]; rfl
  have g1 : (ext m [.map [], .cells [.map (nb m.next 0), .nilslice, .nilslice, .int .i64 1] 4 37 false]).get (nb m.next 1) = .cells [.map (nb m.next 0), .nilslice, .nilslice, .int .i64 1] 4 37 false := by rw [get_ext_nb rfl (by simp)]; rfl
  have e0 : nb m.next 0 = m.next := rfl
  have e1 : nb m.next 1 = m.next + 1 := rfl
  refine ⟨_, fun c => if c = m.next then .map else if c = m.next + 1 then .box else .other, nb m.next 1, nb m.next 0, [], fun _ => .nilslice, .nilslice, .nilslice, hX.symm, ⟨g1, g0, ⟨by rw [hn, e1]; omega, by rw [e1]; simp⟩, ⟨by rw [hn, e0]; omega, by rw [e0]; simp⟩, .nil, .nil, .nil, fun s => rfl, fun s hs => absurd rfl hs, fun c hc => ?_⟩, by rw [hn]; omega, fun c hc => ⟨get_ext_old hc, ?_⟩⟩
  · rw [hn] at hc
    rw [if_neg (by omega), if_neg (by omega)]
  · simp only
    rw [if_neg (by omega), if_neg (by omega)]
end
theorem wrap_succ {i : Nat} (h : i < 1000000000) : IntKind.i64.wrap ((i : Int) + 1) = ((i + 1 : Nat) : Int) := by rw [wrap_i64 (by omega) (by omega)]; omega
end Go.Proofs.Ytjegondbhejpcaa.Ev
end
