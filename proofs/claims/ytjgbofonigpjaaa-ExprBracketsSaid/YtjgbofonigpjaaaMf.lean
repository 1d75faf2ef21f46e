/- EvU, EvLoop, PLex, WLex1, WLex2, WLex3, WLex4, PTree, PExpr, PExpr2, WTree1, WTree2, WTree3, PExpr3, PExpr4, PExpr5. -/
import GoSem.Dispatch
import Derived.Test.YtjgbofonigpjaaaMe
section
namespace Go.Proofs.Ytjgbofonigpjaaa.Ev
open Go
theorem entT0 : ∀ f e, T0 f = some e → EntOkS e := Bt.find_of (t := tree)
  ⟨(show okFun _ = true by kernel_rfl), ⟨(show okFun _ = true by kernel_rfl), ⟨(show okFun _ = true by kernel_rfl), ⟨(show okFun _ = true by kernel_rfl), ⟨(show okFun _ = true by kernel_rfl), ⟨(show okFun _ = true by kernel_rfl), trivial, trivial⟩, ⟨(show okFun _ = true by kernel_rfl), trivial, trivial⟩⟩, ⟨(show okFun _ = true by kernel_rfl), ⟨(show okFun _ = true by kernel_rfl), trivial, trivial⟩, trivial⟩⟩, ⟨(show okFun _ = true by kernel_rfl), ⟨(show okFun _ = true by kernel_rfl), ⟨(show okFun _ = true by kernel_rfl), trivial, trivial⟩, ⟨(show okFun _ = true by kernel_rfl), trivial, trivial⟩⟩, ⟨(show okFun _ = true by kernel_rfl), ⟨(show okFun _ = true by kernel_rfl), trivial, trivial⟩, trivial⟩⟩⟩, ⟨(show okFun _ = true by kernel_rfl), ⟨(show okFun _ = true by kernel_rfl), ⟨(show okFun _ = true by kernel_rfl), ⟨(show okFun _ = true by kernel_rfl), trivial, trivial⟩, ⟨(show okFun _ = true by kernel_rfl), trivial, trivial⟩⟩, ⟨(show okFun _ = true by kernel_rfl), ⟨(show okFun _ = true by kernel_rfl), trivial, trivial⟩, trivial⟩⟩, ⟨(show okFun _ = true by kernel_rfl), ⟨(show okFun _ = true by kernel_rfl), ⟨(show okFun _ = true by kernel_rfl), trivial, trivial⟩, ⟨(show okFun _ = true by kernel_rfl), trivial, trivial⟩⟩, ⟨(show okFun _ = true by kernel_rfl), ⟨(show okFun _ = true by kernel_rfl), trivial, trivial⟩, trivial⟩⟩⟩⟩, ⟨(show okFun _ = true by kernel_rfl), ⟨(show okFun _ = true by kernel_rfl), ⟨(show okFun _ = true by kernel_rfl), ⟨(show okFun _ = true by kernel_rfl), ⟨(show okFun _ = true by kernel_rfl), trivial, trivial⟩, ⟨(show okFun _ = true by kernel_rfl), trivial, trivial⟩⟩, ⟨(show okFun _ = true by kernel_rfl), ⟨(show okFun _ = true by kernel_rfl), trivial, trivial⟩, trivial⟩⟩, ⟨(show okFun _ = true by kernel_rfl), ⟨(show okFun _ = true by kernel_rfl), ⟨(show okFun _ = true by kernel_rfl), trivial, trivial⟩, ⟨(show okFun _ = true by kernel_rfl), trivial, trivial⟩⟩, ⟨(show okFun _ = true by kernel_rfl), ⟨(show okFun _ = true by kernel_rfl), trivial, trivial⟩, trivial⟩⟩⟩, ⟨(show okFun _ = true by kernel_rfl), ⟨(show okFun _ = true by kernel_rfl), ⟨(show okFun _ = true by kernel_rfl), ⟨(show okFun _ = true by kernel_rfl), trivial, trivial⟩, ⟨(show okFun _ = true by kernel_rfl), trivial, trivial⟩⟩, ⟨(show okFun _ = true by kernel_rfl), ⟨(show okFun _ = true by kernel_rfl), trivial, trivial⟩, trivial⟩⟩, ⟨(show okFun _ = true by kernel_rfl), ⟨(show okFun _ = true by kernel_rfl), ⟨(show okFun _ = true by kernel_rfl), trivial, trivial⟩, trivial⟩, ⟨(show okFun _ = true by kernel_rfl), ⟨(show okFun _ = true by kernel_rfl), trivial, trivial⟩, trivial⟩⟩⟩⟩⟩
theorem entT1 : ∀ f e, T1 f = some e → EntOkS e := up_okS entT0
theorem entS : ∀ f e, T f = some e → EntS T f e := entS_of (entT1)
def K (f : Nat) : Nat := bif memB f [3, 4, 5, 9, 10, 11, 12, 13, 14, 15, 22, 23, 24, 25, 26, 27, 28, 29, 30, 31, 32, 33, 34, 37, 38, 39, 40, 41, 45] then 1 else bif memB f [7, 8, 42, 43] then 2 else 0
abbrev B0 : Nat → Option Ent := T
theorem entB0 : ∀ f e, B0 f = some e → EntS T f e := entS
noncomputable def B1 : Nat → Option Ent := up B0 18 (.spec (lookT B0 F_expr_Reader_Token))
theorem entB1 : ∀ f e, B1 f = some e → EntS T f e := up_look entB0 (F := F_expr_Reader_Token) rfl (by kernel_rfl)
noncomputable def B2 : Nat → Option Ent := up B1 20 (.spec (lookT B1 F_expr_Reader_fine))
theorem entB2 : ∀ f e, B2 f = some e → EntS T f e := up_look entB1 (F := F_expr_Reader_fine) rfl (by kernel_rfl)
noncomputable def B3 : Nat → Option Ent := up B2 52 (.spec (lookT B2 F_expr_Reader_Is))
theorem entB3 : ∀ f e, B3 f = some e → EntS T f e := up_look entB2 (F := F_expr_Reader_Is) rfl (by kernel_rfl)
noncomputable abbrev B : Nat → Option Ent := B3
theorem entB : ∀ f e, B f = some e → EntS T f e := entB3
noncomputable abbrev U : Nat → Option Ent := UT B K
instance : HasF B0 3 F_l07_ExprBrackets := ⟨rfl⟩
instance : HasF B1 3 F_l07_ExprBrackets := ⟨rfl⟩
instance : HasF B2 3 F_l07_ExprBrackets := ⟨rfl⟩
instance : HasF B3 3 F_l07_ExprBrackets := ⟨rfl⟩
instance : Sort0 K 3 := ⟨rfl⟩
instance : HasF B0 4 F_l07_ExprDeep := ⟨rfl⟩
instance : HasF B1 4 F_l07_ExprDeep := ⟨rfl⟩
instance : HasF B2 4 F_l07_ExprDeep := ⟨rfl⟩
instance : HasF B3 4 F_l07_ExprDeep := ⟨rfl⟩
instance : Sort0 K 4 := ⟨rfl⟩
instance : HasF B0 5 F_l07_ExprStands := ⟨rfl⟩
instance : HasF B1 5 F_l07_ExprStands := ⟨rfl⟩
instance : HasF B2 5 F_l07_ExprStands := ⟨rfl⟩
instance : HasF B3 5 F_l07_ExprStands := ⟨rfl⟩
instance : Sort0 K 5 := ⟨rfl⟩
instance : HasF B0 7 F_r05_Tokens := ⟨rfl⟩
instance : HasF B1 7 F_r05_Tokens := ⟨rfl⟩
instance : HasF B2 7 F_r05_Tokens := ⟨rfl⟩
instance : HasF B3 7 F_r05_Tokens := ⟨rfl⟩
instance : Sort1 K 7 := ⟨rfl⟩
instance : HasF B0 8 F_expr_Parse := ⟨rfl⟩
instance : HasF B1 8 F_expr_Parse := ⟨rfl⟩
instance : HasF B2 8 F_expr_Parse := ⟨rfl⟩
instance : HasF B3 8 F_expr_Parse := ⟨rfl⟩
instance : Sort1 K 8 := ⟨rfl⟩
instance : HasF B0 9 F_base_SameNodes := ⟨rfl⟩
instance : HasF B1 9 F_base_SameNodes := ⟨rfl⟩
instance : HasF B2 9 F_base_SameNodes := ⟨rfl⟩
instance : HasF B3 9 F_base_SameNodes := ⟨rfl⟩
instance : Sort0 K 9 := ⟨rfl⟩
instance : HasF B0 10 F_r06_Right := ⟨rfl⟩
instance : HasF B1 10 F_r06_Right := ⟨rfl⟩
instance : HasF B2 10 F_r06_Right := ⟨rfl⟩
instance : HasF B3 10 F_r06_Right := ⟨rfl⟩
instance : Sort0 K 10 := ⟨rfl⟩
instance : HasF B0 11 F_base_HasInt := ⟨rfl⟩
instance : HasF B1 11 F_base_HasInt := ⟨rfl⟩
instance : HasF B2 11 F_base_HasInt := ⟨rfl⟩
instance : HasF B3 11 F_base_HasInt := ⟨rfl⟩
instance : Sort0 K 11 := ⟨rfl⟩
instance : HasF B0 12 F_r06_Expr := ⟨rfl⟩
instance : HasF B1 12 F_r06_Expr := ⟨rfl⟩
instance : HasF B2 12 F_r06_Expr := ⟨rfl⟩
instance : HasF B3 12 F_r06_Expr := ⟨rfl⟩
instance : Sort0 K 12 := ⟨rfl⟩
instance : HasF B0 13 F_r06_Tell := ⟨rfl⟩
instance : HasF B1 13 F_r06_Tell := ⟨rfl⟩
instance : HasF B2 13 F_r06_Tell := ⟨rfl⟩
instance : HasF B3 13 F_r06_Tell := ⟨rfl⟩
instance : Sort0 K 13 := ⟨rfl⟩
instance : HasF B0 14 F_r05_Skip := ⟨rfl⟩
instance : HasF B1 14 F_r05_Skip := ⟨rfl⟩
instance : HasF B2 14 F_r05_Skip := ⟨rfl⟩
instance : HasF B3 14 F_r05_Skip := ⟨rfl⟩
instance : Sort0 K 14 := ⟨rfl⟩
instance : HasF B0 15 F_r05_one := ⟨rfl⟩
instance : HasF B1 15 F_r05_one := ⟨rfl⟩
instance : HasF B2 15 F_r05_one := ⟨rfl⟩
instance : HasF B3 15 F_r05_one := ⟨rfl⟩
instance : Sort0 K 15 := ⟨rfl⟩
instance : HasF B0 16 F_expr_New := ⟨rfl⟩
instance : HasF B1 16 F_expr_New := ⟨rfl⟩
instance : HasF B2 16 F_expr_New := ⟨rfl⟩
instance : HasF B3 16 F_expr_New := ⟨rfl⟩
instance : Sort2 K 16 := ⟨rfl⟩
instance : HasF B0 17 F_expr_Reader_Expr := ⟨rfl⟩
instance : HasF B1 17 F_expr_Reader_Expr := ⟨rfl⟩
instance : HasF B2 17 F_expr_Reader_Expr := ⟨rfl⟩
instance : HasF B3 17 F_expr_Reader_Expr := ⟨rfl⟩
instance : Sort2 K 17 := ⟨rfl⟩
instance : HasF B0 18 F_expr_Reader_Token := ⟨rfl⟩
instance : Sort2 K 18 := ⟨rfl⟩
instance : HasF B0 19 F_expr_Reader_Fail := ⟨rfl⟩
instance : HasF B1 19 F_expr_Reader_Fail := ⟨rfl⟩
instance : HasF B2 19 F_expr_Reader_Fail := ⟨rfl⟩
instance : HasF B3 19 F_expr_Reader_Fail := ⟨rfl⟩
instance : Sort2 K 19 := ⟨rfl⟩
instance : HasF B0 20 F_expr_Reader_fine := ⟨rfl⟩
instance : HasF B1 20 F_expr_Reader_fine := ⟨rfl⟩
instance : Sort2 K 20 := ⟨rfl⟩
instance : HasF B0 21 F_expr_Reader_Tree := ⟨rfl⟩
instance : HasF B1 21 F_expr_Reader_Tree := ⟨rfl⟩
instance : HasF B2 21 F_expr_Reader_Tree := ⟨rfl⟩
instance : HasF B3 21 F_expr_Reader_Tree := ⟨rfl⟩
instance : Sort2 K 21 := ⟨rfl⟩
instance : HasF B0 22 F_base_SameInts := ⟨rfl⟩
instance : HasF B1 22 F_base_SameInts := ⟨rfl⟩
instance : HasF B2 22 F_base_SameInts := ⟨rfl⟩
instance : HasF B3 22 F_base_SameInts := ⟨rfl⟩
instance : Sort0 K 22 := ⟨rfl⟩
instance : HasF B0 23 F_r06_own := ⟨rfl⟩
instance : HasF B1 23 F_r06_own := ⟨rfl⟩
instance : HasF B2 23 F_r06_own := ⟨rfl⟩
instance : HasF B3 23 F_r06_own := ⟨rfl⟩
instance : Sort0 K 23 := ⟨rfl⟩
instance : HasF B0 24 F_r06_kids := ⟨rfl⟩
instance : HasF B1 24 F_r06_kids := ⟨rfl⟩
instance : HasF B2 24 F_r06_kids := ⟨rfl⟩
instance : HasF B3 24 F_r06_kids := ⟨rfl⟩
instance : Sort0 K 24 := ⟨rfl⟩
instance : HasF B0 25 F_r06_Height := ⟨rfl⟩
instance : HasF B1 25 F_r06_Height := ⟨rfl⟩
instance : HasF B2 25 F_r06_Height := ⟨rfl⟩
instance : HasF B3 25 F_r06_Height := ⟨rfl⟩
instance : Sort0 K 25 := ⟨rfl⟩
instance : HasF B0 26 F_base_Itoa := ⟨rfl⟩
instance : HasF B1 26 F_base_Itoa := ⟨rfl⟩
instance : HasF B2 26 F_base_Itoa := ⟨rfl⟩
instance : HasF B3 26 F_base_Itoa := ⟨rfl⟩
instance : Sort0 K 26 := ⟨rfl⟩
instance : HasF B0 27 F_r06_word := ⟨rfl⟩
instance : HasF B1 27 F_r06_word := ⟨rfl⟩
instance : HasF B2 27 F_r06_word := ⟨rfl⟩
instance : HasF B3 27 F_r06_word := ⟨rfl⟩
instance : Sort0 K 27 := ⟨rfl⟩
instance : HasF B0 28 F_r06_Kind := ⟨rfl⟩
instance : HasF B1 28 F_r06_Kind := ⟨rfl⟩
instance : HasF B2 28 F_r06_Kind := ⟨rfl⟩
instance : HasF B3 28 F_r06_Kind := ⟨rfl⟩
instance : Sort0 K 28 := ⟨rfl⟩
instance : HasF B0 29 F_r05_Blank := ⟨rfl⟩
instance : HasF B1 29 F_r05_Blank := ⟨rfl⟩
instance : HasF B2 29 F_r05_Blank := ⟨rfl⟩
instance : HasF B3 29 F_r05_Blank := ⟨rfl⟩
instance : Sort0 K 29 := ⟨rfl⟩
instance : HasF B0 30 F_r05_Digit := ⟨rfl⟩
instance : HasF B1 30 F_r05_Digit := ⟨rfl⟩
instance : HasF B2 30 F_r05_Digit := ⟨rfl⟩
instance : HasF B3 30 F_r05_Digit := ⟨rfl⟩
instance : Sort0 K 30 := ⟨rfl⟩
instance : HasF B0 31 F_r05_number := ⟨rfl⟩
instance : HasF B1 31 F_r05_number := ⟨rfl⟩
instance : HasF B2 31 F_r05_number := ⟨rfl⟩
instance : HasF B3 31 F_r05_number := ⟨rfl⟩
instance : Sort0 K 31 := ⟨rfl⟩
instance : HasF B0 32 F_r05_Letter := ⟨rfl⟩
instance : HasF B1 32 F_r05_Letter := ⟨rfl⟩
instance : HasF B2 32 F_r05_Letter := ⟨rfl⟩
instance : HasF B3 32 F_r05_Letter := ⟨rfl⟩
instance : Sort0 K 32 := ⟨rfl⟩
instance : HasF B0 33 F_r05_Word := ⟨rfl⟩
instance : HasF B1 33 F_r05_Word := ⟨rfl⟩
instance : HasF B2 33 F_r05_Word := ⟨rfl⟩
instance : HasF B3 33 F_r05_Word := ⟨rfl⟩
instance : Sort0 K 33 := ⟨rfl⟩
instance : HasF B0 34 F_r05_sign := ⟨rfl⟩
instance : HasF B1 34 F_r05_sign := ⟨rfl⟩
instance : HasF B2 34 F_r05_sign := ⟨rfl⟩
instance : HasF B3 34 F_r05_sign := ⟨rfl⟩
instance : Sort0 K 34 := ⟨rfl⟩
instance : HasF B0 35 F_expr_Reader_climb := ⟨rfl⟩
instance : HasF B1 35 F_expr_Reader_climb := ⟨rfl⟩
instance : HasF B2 35 F_expr_Reader_climb := ⟨rfl⟩
instance : HasF B3 35 F_expr_Reader_climb := ⟨rfl⟩
instance : Sort2 K 35 := ⟨rfl⟩
instance : HasF B0 36 F_slices_Clone := ⟨rfl⟩
instance : HasF B1 36 F_slices_Clone := ⟨rfl⟩
instance : HasF B2 36 F_slices_Clone := ⟨rfl⟩
instance : HasF B3 36 F_slices_Clone := ⟨rfl⟩
instance : Sort2 K 36 := ⟨rfl⟩
instance : HasF B0 37 F_r06_named := ⟨rfl⟩
instance : HasF B1 37 F_r06_named := ⟨rfl⟩
instance : HasF B2 37 F_r06_named := ⟨rfl⟩
instance : HasF B3 37 F_r06_named := ⟨rfl⟩
instance : Sort0 K 37 := ⟨rfl⟩
instance : HasF B0 38 F_r05_Name := ⟨rfl⟩
instance : HasF B1 38 F_r05_Name := ⟨rfl⟩
instance : HasF B2 38 F_r05_Name := ⟨rfl⟩
instance : HasF B3 38 F_r05_Name := ⟨rfl⟩
instance : Sort0 K 38 := ⟨rfl⟩
instance : HasF B0 39 F_r06_exprs := ⟨rfl⟩
instance : HasF B1 39 F_r06_exprs := ⟨rfl⟩
instance : HasF B2 39 F_r06_exprs := ⟨rfl⟩
instance : HasF B3 39 F_r06_exprs := ⟨rfl⟩
instance : Sort0 K 39 := ⟨rfl⟩
instance : HasF B0 40 F_r06_all := ⟨rfl⟩
instance : HasF B1 40 F_r06_all := ⟨rfl⟩
instance : HasF B2 40 F_r06_all := ⟨rfl⟩
instance : HasF B3 40 F_r06_all := ⟨rfl⟩
instance : Sort0 K 40 := ⟨rfl⟩
instance : HasF B0 41 F_r06_Stmt := ⟨rfl⟩
instance : HasF B1 41 F_r06_Stmt := ⟨rfl⟩
instance : HasF B2 41 F_r06_Stmt := ⟨rfl⟩
instance : HasF B3 41 F_r06_Stmt := ⟨rfl⟩
instance : Sort0 K 41 := ⟨rfl⟩
instance : HasF B0 42 F_r06_Signs := ⟨rfl⟩
instance : HasF B1 42 F_r06_Signs := ⟨rfl⟩
instance : HasF B2 42 F_r06_Signs := ⟨rfl⟩
instance : HasF B3 42 F_r06_Signs := ⟨rfl⟩
instance : Sort1 K 42 := ⟨rfl⟩
instance : HasF B0 43 F_r05_Words := ⟨rfl⟩
instance : HasF B1 43 F_r05_Words := ⟨rfl⟩
instance : HasF B2 43 F_r05_Words := ⟨rfl⟩
instance : HasF B3 43 F_r05_Words := ⟨rfl⟩
instance : Sort1 K 43 := ⟨rfl⟩
instance : HasF B0 44 F_expr_Reader_front := ⟨rfl⟩
instance : HasF B1 44 F_expr_Reader_front := ⟨rfl⟩
instance : HasF B2 44 F_expr_Reader_front := ⟨rfl⟩
instance : HasF B3 44 F_expr_Reader_front := ⟨rfl⟩
instance : Sort2 K 44 := ⟨rfl⟩
instance : HasF B0 45 F_expr_ops := ⟨rfl⟩
instance : HasF B1 45 F_expr_ops := ⟨rfl⟩
instance : HasF B2 45 F_expr_ops := ⟨rfl⟩
instance : HasF B3 45 F_expr_ops := ⟨rfl⟩
instance : Sort0 K 45 := ⟨rfl⟩
instance : HasF B0 46 F_expr_Reader_Put := ⟨rfl⟩
instance : HasF B1 46 F_expr_Reader_Put := ⟨rfl⟩
instance : HasF B2 46 F_expr_Reader_Put := ⟨rfl⟩
instance : HasF B3 46 F_expr_Reader_Put := ⟨rfl⟩
instance : Sort2 K 46 := ⟨rfl⟩
instance : HasF B0 47 F_expr_Reader_Skip := ⟨rfl⟩
instance : HasF B1 47 F_expr_Reader_Skip := ⟨rfl⟩
instance : HasF B2 47 F_expr_Reader_Skip := ⟨rfl⟩
instance : HasF B3 47 F_expr_Reader_Skip := ⟨rfl⟩
instance : Sort2 K 47 := ⟨rfl⟩
instance : HasF B0 48 F_expr_Reader_cells := ⟨rfl⟩
instance : HasF B1 48 F_expr_Reader_cells := ⟨rfl⟩
instance : HasF B2 48 F_expr_Reader_cells := ⟨rfl⟩
instance : HasF B3 48 F_expr_Reader_cells := ⟨rfl⟩
instance : Sort2 K 48 := ⟨rfl⟩
instance : HasF B0 49 F_expr_Reader_atom := ⟨rfl⟩
instance : HasF B1 49 F_expr_Reader_atom := ⟨rfl⟩
instance : HasF B2 49 F_expr_Reader_atom := ⟨rfl⟩
instance : HasF B3 49 F_expr_Reader_atom := ⟨rfl⟩
instance : Sort2 K 49 := ⟨rfl⟩
instance : HasF B0 50 F_expr_Reader_Open := ⟨rfl⟩
instance : HasF B1 50 F_expr_Reader_Open := ⟨rfl⟩
instance : HasF B2 50 F_expr_Reader_Open := ⟨rfl⟩
instance : HasF B3 50 F_expr_Reader_Open := ⟨rfl⟩
instance : Sort2 K 50 := ⟨rfl⟩
instance : HasF B0 51 F_expr_Reader_Close := ⟨rfl⟩
instance : HasF B1 51 F_expr_Reader_Close := ⟨rfl⟩
instance : HasF B2 51 F_expr_Reader_Close := ⟨rfl⟩
instance : HasF B3 51 F_expr_Reader_Close := ⟨rfl⟩
instance : Sort2 K 51 := ⟨rfl⟩
instance : HasF B0 52 F_expr_Reader_Is := ⟨rfl⟩
instance : HasF B1 52 F_expr_Reader_Is := ⟨rfl⟩
instance : HasF B2 52 F_expr_Reader_Is := ⟨rfl⟩
instance : Sort2 K 52 := ⟨rfl⟩
instance : HasF B0 53 F_expr_Reader_Inner := ⟨rfl⟩
instance : HasF B1 53 F_expr_Reader_Inner := ⟨rfl⟩
instance : HasF B2 53 F_expr_Reader_Inner := ⟨rfl⟩
instance : HasF B3 53 F_expr_Reader_Inner := ⟨rfl⟩
instance : Sort2 K 53 := ⟨rfl⟩
instance : HasF B0 54 F_expr_Reader_Call := ⟨rfl⟩
instance : HasF B1 54 F_expr_Reader_Call := ⟨rfl⟩
instance : HasF B2 54 F_expr_Reader_Call := ⟨rfl⟩
instance : HasF B3 54 F_expr_Reader_Call := ⟨rfl⟩
instance : Sort2 K 54 := ⟨rfl⟩
instance : HasF B0 55 F_expr_Reader_Want := ⟨rfl⟩
instance : HasF B1 55 F_expr_Reader_Want := ⟨rfl⟩
instance : HasF B2 55 F_expr_Reader_Want := ⟨rfl⟩
instance : HasF B3 55 F_expr_Reader_Want := ⟨rfl⟩
instance : Sort2 K 55 := ⟨rfl⟩
instance : HasF B0 56 F_expr_Reader_arguments := ⟨rfl⟩
instance : HasF B1 56 F_expr_Reader_arguments := ⟨rfl⟩
instance : HasF B2 56 F_expr_Reader_arguments := ⟨rfl⟩
instance : HasF B3 56 F_expr_Reader_arguments := ⟨rfl⟩
instance : Sort2 K 56 := ⟨rfl⟩
theorem look_expr_Reader_Token {args : List EV} {m : Mem} : run U 18 args m = lookT B0 F_expr_Reader_Token args m := run_p3 (h := ⟨rfl⟩) rfl
theorem look2_expr_Reader_Token {args : List EV} {m : Mem} : run B2 18 args m = lookT B0 F_expr_Reader_Token args m := run_spec rfl
theorem look_expr_Reader_fine {args : List EV} {m : Mem} : run U 20 args m = lookT B1 F_expr_Reader_fine args m := run_p3 (h := ⟨rfl⟩) rfl
theorem look2_expr_Reader_fine {args : List EV} {m : Mem} : run B2 20 args m = lookT B1 F_expr_Reader_fine args m := run_spec rfl
theorem look_expr_Reader_Is {args : List EV} {m : Mem} : run U 52 args m = lookT B2 F_expr_Reader_Is args m := run_p3 (h := ⟨rfl⟩) rfl
theorem run_works6 {m : Mem} : run U 6 [] m = some (.ret (.bool true) m) := run_true (f := 6) (by unfold U UT PT; rfl)
end Go.Proofs.Ytjgbofonigpjaaa.Ev
end
section
namespace Go.Proofs.Ytjgbofonigpjaaa.Ev
open Go
set_option linter.unusedSimpArgs false
def LoopW {σ : Type} (I : σ → Fr → Mem → Prop) (lt : σ → Prop) (Q : Out → Prop) (o : Option Out) : Prop := match o with
  | some (.norm fr m) => ∃ s, lt s ∧ I s fr m
  | some o => Q o
  | none => False
theorem loop_w {T : Nat → Option Ent} {c : ICode} {σ : Type} (I : σ → Fr → Mem → Prop) (μ : σ → Nat) (Q : Out → Prop) (h : ∀ s fr m, I s fr m → LoopW I (fun s' => μ s' < μ s) Q (exec T c fr m)) : ∀ s fr m, I s fr m → ∃ o, exec T (.loop c) fr m = some o ∧ Q o := by
  intro s
  generalize hn : μ s = n
  induction n using Nat.strongRecOn generalizing s with
  | _ n ih =>
    intro fr m hI
    have hw := h s fr m hI
    rw [exec_loop]
    cases he : exec T c fr m with
    | none => rw [he] at hw; exact hw.elim
    | some o =>
      rw [he] at hw
      cases o with
      | norm fr1 m1 => obtain ⟨s1, h1, h2⟩ := hw; exact ih (μ s1) (by omega) s1 rfl fr1 m1 h2
      | exit id fr1 m1 => exact ⟨_, rfl, hw⟩
      | ret fr1 m1 => exact ⟨_, rfl, hw⟩
      | pan v fr1 m1 => exact ⟨_, rfl, hw⟩
section
variable {σ : Type} {I : σ → Fr → Mem → Prop} {lt : σ → Prop} {Q : Out → Prop}
theorem lw_iF {p : Prop} {a b : Option Out} (h1 : p → LoopW I lt Q a) (h2 : ¬ p → LoopW I lt Q b) : LoopW I lt Q (iF p a b) := by
  by_cases h : p
  · rw [iF_pos h]; exact h1 h
  · rw [iF_neg h]; exact h2 h
theorem lw_norm {fr : Fr} {m : Mem} (s : σ) (h : lt s) (hI : I s fr m) : LoopW I lt Q (some (.norm fr m)) := ⟨s, h, hI⟩
theorem lw_exit {id : Nat} {fr : Fr} {m : Mem} (h : Q (.exit id fr m)) : LoopW I lt Q (some (.exit id fr m)) := h
theorem lw_ret {fr : Fr} {m : Mem} (h : Q (.ret fr m)) : LoopW I lt Q (some (.ret fr m)) := h
end
/-- A loop that stands under a name, and how it ends. -/
theorem looped {T : Nat → Option Ent} {c : ICode} {fr : Fr} {m : Mem} {X : Option Out} (hX : exec T (.loop c) fr m = X) {Q : Out → Prop} (h : ∃ o, exec T (.loop c) fr m = some o ∧ Q o) : ∃ o, X = some o ∧ Q o := by
  rw [hX] at h; exact h
/-- A row that is put down, of any length. -/
def bsF (e esz len : Nat) (o : Option (List EV)) (m : Mem) : Option R1 := match o with
  | some cs => some (.val (.slice (nb m.next 0) 0 len (some len)) (ext m [.cells cs esz e false]))
  | none => none
@[congr] theorem bsF_congr {e esz len : Nat} {o o' : Option (List EV)} {m : Mem} (h : o = o') : bsF e esz len o m = bsF e esz len o' m := by rw [h]
theorem bsF_some {e esz len : Nat} {cs : List EV} {m : Mem} : bsF e esz len (some cs) m = some (.val (.slice (nb m.next 0) 0 len (some len)) (ext m [.cells cs esz e false])) := rfl
theorem evOp_bsliceN {ρ : Opd → EV} {m : Mem} {e esz len : Nat} {zero : List EV} {parts : List (Nat × Opd)} : evOp ρ (.bslice e esz len zero parts) m = bsF e esz len (fillIn (copies len zero) (parts.map fun p => (p.1 * esz, esz, ρ p.2))) m := by
  simp only [evOp, bsF]
  cases fillIn (copies len zero) (parts.map fun p => (p.1 * esz, esz, ρ p.2)) <;> rfl
/-- A function that calls none, of given arguments. -/
def bodyV (call : Call) (n : Nat) (F : IFun) (asx : List EV) : Option EV := match evBody call n F asx mem00 with
  | some (.ret v m) => frzV m v
  | _ => none
theorem pure_closed {T : Nat → Option Ent} {K : Nat → Nat} {f : Nat} {F : IFun} [h : HasF T f F] {asx : List EV} {V : EV} (n : Nat) (hb : ∀ call : Call, bodyV call n F asx = some V) : pureR T K f asx = some V := by
  rw [pureR_eq h.has]
  have hb := hb (evFun (UT T K) n)
  unfold bodyV at hb
  cases he : evBody (evFun (UT T K) n) n F asx mem00 with
  | none => rw [he] at hb; cases hb
  | some fin =>
    rw [he] at hb
    cases fin with
    | pan v m => cases hb
    | ret v m =>
      refine bodyP_of he ?_
      have hb' : frz (freezes 7 m) m v = some V := hb
      show frzs (freezes 7 m) m [v] = some [V]
      simp only [frzs, hb']
end Go.Proofs.Ytjgbofonigpjaaa.Ev
namespace Go.Proofs.Ytjgbofonigpjaaa.Ev
open Go
/-- A slice of one's own, asx a row. -/
theorem Own.frz {m : Mem} {v : EV} {els : List (List EV)} {n e lo : Nat} (h : Own m v els.flatten n e lo) (hn : els.length = n) (hl : ∀ el ∈ els, el.length = e) (hp : ∀ el ∈ els, plains el = true) : ∃ nl, frzV m v = some (row nl 0 e els) := by
  rcases h.is with ⟨rfl, rfl, h3⟩ | ⟨b, cap, t, rfl, h1, h2, h3, h4⟩
  · have : els = [] := List.eq_nil_of_length_eq_zero hn
    subst this
    exact ⟨true, rfl⟩
  · subst hn
    refine ⟨false, ?_⟩
    rw [frzV_block h3 hl hp (by rcases h4 with rfl | rfl <;> simp [capOk])]
    simp [row]
theorem Own.frz_pos {m : Mem} {v : EV} {els : List (List EV)} {n e lo : Nat} (h : Own m v els.flatten n e lo) (hn : els.length = n) (h0 : 0 < n) (hl : ∀ el ∈ els, el.length = e) (hp : ∀ el ∈ els, plains el = true) : frzV m v = some (.fz 0 e els) := by
  rcases h.is with ⟨rfl, rfl, h3⟩ | ⟨b, cap, t, rfl, h1, h2, h3, h4⟩
  · omega
  · subst hn
    exact frzV_block h3 hl hp (by rcases h4 with rfl | rfl <;> simp [capOk])
end Go.Proofs.Ytjgbofonigpjaaa.Ev
namespace Go.Proofs.Ytjgbofonigpjaaa.Ev
end Go.Proofs.Ytjgbofonigpjaaa.Ev
namespace Go.Proofs.Ytjgbofonigpjaaa.Ev
/-- Laws of reckoning, all in one. -/
theorem zz0 : type_of% (And.intro (@fr00_get) <| And.intro (@fr00_defers) <| And.intro (@put_some) <| And.intro (@put_none) <| And.intro (@set_defers) <| And.intro (@eval_tmp) <| And.intro (@eval_const) <| And.intro (@ofEV_some) <| And.intro (@ofEM_some) <| And.intro (@ofM_some) <| And.intro (@thenV_some) <| And.intro (@thenC_ret) <| And.intro (@thenE_norm) <| And.intro (@thenE_ret) <| And.intro (@thenE_exit) <| And.intro (@leave_norm) <| And.intro (@leave_ret) <| And.intro (@leave_exit) <| And.intro (@selO_t) <| And.intro (@selO_f) <| And.intro (@resR_ret) <| And.intro (@resR_norm) <| And.intro (@resR_pan) <| And.intro (@eq_self.{1}) <| And.intro (@res_nil) <| And.intro (@res_tmp) <| And.intro (@one_one) <| And.intro (@one_two) <| And.intro (@one_nil) <| And.intro (@bin_add) <| And.intro (@bin_sub) <| And.intro (@bin_mul) <| And.intro (@bin_quo) <| And.intro (@bin_rem) <| And.intro (@bin_and) <| And.intro (@bin_or) <| And.intro (@bin_xor) <| And.intro (@bin_andNot) <| And.intro (@bin_lss) <| And.intro (@bin_leq) <| And.intro (@bin_gtr) <| And.intro (@bin_geq) <| And.intro (@bin_shl_i64) <| And.intro (@bin_shr_i64) <| And.intro (@bin_shl_u64) <| And.intro (@bin_shr_u64) <| And.intro (@eq_int) <| And.intro (@un_neg) <| And.intro (@cv_int) <| (@exec_seq)) :=
  And.intro (@fr00_get) <| And.intro (@fr00_defers) <| And.intro (@put_some) <| And.intro (@put_none) <| And.intro (@set_defers) <| And.intro (@eval_tmp) <| And.intro (@eval_const) <| And.intro (@ofEV_some) <| And.intro (@ofEM_some) <| And.intro (@ofM_some) <| And.intro (@thenV_some) <| And.intro (@thenC_ret) <| And.intro (@thenE_norm) <| And.intro (@thenE_ret) <| And.intro (@thenE_exit) <| And.intro (@leave_norm) <| And.intro (@leave_ret) <| And.intro (@leave_exit) <| And.intro (@selO_t) <| And.intro (@selO_f) <| And.intro (@resR_ret) <| And.intro (@resR_norm) <| And.intro (@resR_pan) <| And.intro (@eq_self.{1}) <| And.intro (@res_nil) <| And.intro (@res_tmp) <| And.intro (@one_one) <| And.intro (@one_two) <| And.intro (@one_nil) <| And.intro (@bin_add) <| And.intro (@bin_sub) <| And.intro (@bin_mul) <| And.intro (@bin_quo) <| And.intro (@bin_rem) <| And.intro (@bin_and) <| And.intro (@bin_or) <| And.intro (@bin_xor) <| And.intro (@bin_andNot) <| And.intro (@bin_lss) <| And.intro (@bin_leq) <| And.intro (@bin_gtr) <| And.intro (@bin_geq) <| And.intro (@bin_shl_i64) <| And.intro (@bin_shr_i64) <| And.intro (@bin_shl_u64) <| And.intro (@bin_shr_u64) <| And.intro (@eq_int) <| And.intro (@un_neg) <| And.intro (@cv_int) <| (@exec_seq)
/-- Laws of reckoning, all in one. -/
theorem zz1 : type_of% (And.intro (@exec_region) <| And.intro (@exec_skip) <| And.intro (@exec_ret) <| And.intro (@exec_exit) <| And.intro (@exec_block) <| And.intro (@exec_cond') <| And.intro (@oprs_nil) <| And.intro (@oprs_val) <| And.intro (@oprs_callv) <| And.intro (@Option.map_some.{0,0}) <| And.intro (@Option.map_none.{0,0}) <| And.intro (@List.map_cons.{0,0}) <| And.intro (@List.map_nil.{0,0}) <| And.intro (@bo_decide) <| And.intro (@bo_not_decide) <| And.intro (@bo_tt) <| And.intro (@bo_ff) <| And.intro (@gv_true) <| And.intro (@gv_false) <| And.intro (@cE_bo) <| And.intro (@thenG_val) <| And.intro (@thenH_ret) <| And.intro (@gV_undef) <| And.intro (@gV_bo_t) <| And.intro (@gV_bo_f) <| And.intro (@gV_gv_t) <| And.intro (@gV_gv_f) <| And.intro (@gC_undef) <| And.intro (@gC_bo_t) <| And.intro (@gC_bo_f) <| And.intro (@gC_gv_t) <| And.intro (@gC_gv_f) <| And.intro (@oprs_gval) <| And.intro (@oprs_gcallv) <| And.intro (@runV_func) <| And.intro (@List.nil_append.{0}) <| And.intro (@List.append_nil.{0}) <| And.intro (@List.cons_append.{0}) <| And.intro (@evOp_pick') <| And.intro (@pick_and) <| And.intro (@pick_or) <| And.intro (@pick_and0) <| And.intro (@pick_or0) <| And.intro (@pick_t) <| And.intro (@pick_f) <| And.intro (@un_not_bo) <| And.intro (@eq_boo) <| And.intro (@eq_str) <| And.intro (@thenE_iF) <| (@leave_iF)) :=
  And.intro (@exec_region) <| And.intro (@exec_skip) <| And.intro (@exec_ret) <| And.intro (@exec_exit) <| And.intro (@exec_block) <| And.intro (@exec_cond') <| And.intro (@oprs_nil) <| And.intro (@oprs_val) <| And.intro (@oprs_callv) <| And.intro (@Option.map_some.{0,0}) <| And.intro (@Option.map_none.{0,0}) <| And.intro (@List.map_cons.{0,0}) <| And.intro (@List.map_nil.{0,0}) <| And.intro (@bo_decide) <| And.intro (@bo_not_decide) <| And.intro (@bo_tt) <| And.intro (@bo_ff) <| And.intro (@gv_true) <| And.intro (@gv_false) <| And.intro (@cE_bo) <| And.intro (@thenG_val) <| And.intro (@thenH_ret) <| And.intro (@gV_undef) <| And.intro (@gV_bo_t) <| And.intro (@gV_bo_f) <| And.intro (@gV_gv_t) <| And.intro (@gV_gv_f) <| And.intro (@gC_undef) <| And.intro (@gC_bo_t) <| And.intro (@gC_bo_f) <| And.intro (@gC_gv_t) <| And.intro (@gC_gv_f) <| And.intro (@oprs_gval) <| And.intro (@oprs_gcallv) <| And.intro (@runV_func) <| And.intro (@List.nil_append.{0}) <| And.intro (@List.append_nil.{0}) <| And.intro (@List.cons_append.{0}) <| And.intro (@evOp_pick') <| And.intro (@pick_and) <| And.intro (@pick_or) <| And.intro (@pick_and0) <| And.intro (@pick_or0) <| And.intro (@pick_t) <| And.intro (@pick_f) <| And.intro (@un_not_bo) <| And.intro (@eq_boo) <| And.intro (@eq_str) <| And.intro (@thenE_iF) <| (@leave_iF)
/-- Laws of reckoning, all in one. -/
theorem zz2 : type_of% (And.intro (@thenV_iF) <| And.intro (@thenC_iF) <| And.intro (@resR_iF) <| And.intro (@not_true_eq_false) <| And.intro (@not_false_eq_true) <| And.intro (@and_true) <| And.intro (@true_and) <| And.intro (@and_false) <| And.intro (@false_and) <| And.intro (@or_true) <| And.intro (@true_or) <| And.intro (@or_false) <| And.intro (@false_or) <| And.intro (@Classical.not_not) <| And.intro (@Bool.false_bne) <| And.intro (@Bool.true_bne) <| And.intro (@Bool.false_xor) <| And.intro (@Bool.true_xor) <| And.intro (@evOp_mov) <| And.intro (@evOp_build) <| And.intro (@evOp_load) <| And.intro (@evOp_store) <| And.intro (@evOp_nilck) <| And.intro (@evOp_bin) <| And.intro (@evOp_eq) <| And.intro (@evOp_un) <| And.intro (@evOp_conv) <| And.intro (@evOp_iface) <| And.intro (@evOp_mkfn) <| And.intro (@evOp_mkslice) <| And.intro (@evOp_slstr) <| And.intro (@evOp_slarr) <| And.intro (@evOp_faddr) <| And.intro (@evOp_fld) <| And.intro (@evOp_iaddrArr) <| And.intro (@evOp_idxstr) <| And.intro (@evOp_idxagg) <| And.intro (@evOp_lookup) <| And.intro (@evOp_mapupd) <| And.intro (@evOp_delete) <| And.intro (@evOp_lenmap) <| And.intro (@evOp_tassert) <| And.intro (@evOp_extract) <| And.intro (@evOp_lenstr) <| And.intro (@evOp_lenarr) <| And.intro (@evOp_cap) <| And.intro (@evOp_max) <| And.intro (@evOp_min) <| And.intro (@evOp_append) <| (@evOp_copy)) :=
  And.intro (@thenV_iF) <| And.intro (@thenC_iF) <| And.intro (@resR_iF) <| And.intro (@not_true_eq_false) <| And.intro (@not_false_eq_true) <| And.intro (@and_true) <| And.intro (@true_and) <| And.intro (@and_false) <| And.intro (@false_and) <| And.intro (@or_true) <| And.intro (@true_or) <| And.intro (@or_false) <| And.intro (@false_or) <| And.intro (@Classical.not_not) <| And.intro (@Bool.false_bne) <| And.intro (@Bool.true_bne) <| And.intro (@Bool.false_xor) <| And.intro (@Bool.true_xor) <| And.intro (@evOp_mov) <| And.intro (@evOp_build) <| And.intro (@evOp_load) <| And.intro (@evOp_store) <| And.intro (@evOp_nilck) <| And.intro (@evOp_bin) <| And.intro (@evOp_eq) <| And.intro (@evOp_un) <| And.intro (@evOp_conv) <| And.intro (@evOp_iface) <| And.intro (@evOp_mkfn) <| And.intro (@evOp_mkslice) <| And.intro (@evOp_slstr) <| And.intro (@evOp_slarr) <| And.intro (@evOp_faddr) <| And.intro (@evOp_fld) <| And.intro (@evOp_iaddrArr) <| And.intro (@evOp_idxstr) <| And.intro (@evOp_idxagg) <| And.intro (@evOp_lookup) <| And.intro (@evOp_mapupd) <| And.intro (@evOp_delete) <| And.intro (@evOp_lenmap) <| And.intro (@evOp_tassert) <| And.intro (@evOp_extract) <| And.intro (@evOp_lenstr) <| And.intro (@evOp_lenarr) <| And.intro (@evOp_cap) <| And.intro (@evOp_max) <| And.intro (@evOp_min) <| And.intro (@evOp_append) <| (@evOp_copy)
/-- Laws of reckoning, all in one. -/
theorem zz3 : type_of% (And.intro (@cE_t) <| And.intro (@cE_f) <| And.intro (@gV_tt) <| And.intro (@gV_tf) <| And.intro (@gV_ft) <| And.intro (@gV_ff) <| And.intro (@gV_gt_t) <| And.intro (@gV_gt_f) <| And.intro (@gV_gf_t) <| And.intro (@gV_gf_f) <| And.intro (@gC_tt) <| And.intro (@gC_tf) <| And.intro (@gC_ft) <| And.intro (@gC_ff) <| And.intro (@gC_gt_t) <| And.intro (@gC_gt_f) <| And.intro (@gC_gf_t) <| And.intro (@gC_gf_f) <| And.intro (@pick_and_t) <| And.intro (@pick_and_f) <| And.intro (@pick_or_t) <| And.intro (@pick_or_f) <| And.intro (@eq_bo_t) <| And.intro (@eq_bo_f) <| And.intro (@eq_t_bo) <| And.intro (@eq_f_bo) <| And.intro (@eq_tt) <| And.intro (@eq_ff) <| And.intro (@eq_tf) <| And.intro (@eq_ft) <| And.intro (@un_not_t) <| And.intro (@un_not_f) <| And.intro (@selE_t) <| And.intro (@selE_f) <| And.intro (@get_set') <| And.intro (@decide_true) <| And.intro (@decide_false) <| And.intro (@Bool.not_true) <| And.intro (@Bool.not_false) <| And.intro (@cond_true.{1}) <| And.intro (@cond_false.{1}) <| And.intro (@Int.cast_ofNat_Int) <| And.intro (@new_eq) <| And.intro (@ext_ext) <| And.intro (@nb_nb) <| And.intro (@next_ext) <| And.intro (@next_set) <| And.intro (@get_set_eq) <| And.intro (@get_set_ne) <| (@get_ext_old)) :=
  And.intro (@cE_t) <| And.intro (@cE_f) <| And.intro (@gV_tt) <| And.intro (@gV_tf) <| And.intro (@gV_ft) <| And.intro (@gV_ff) <| And.intro (@gV_gt_t) <| And.intro (@gV_gt_f) <| And.intro (@gV_gf_t) <| And.intro (@gV_gf_f) <| And.intro (@gC_tt) <| And.intro (@gC_tf) <| And.intro (@gC_ft) <| And.intro (@gC_ff) <| And.intro (@gC_gt_t) <| And.intro (@gC_gt_f) <| And.intro (@gC_gf_t) <| And.intro (@gC_gf_f) <| And.intro (@pick_and_t) <| And.intro (@pick_and_f) <| And.intro (@pick_or_t) <| And.intro (@pick_or_f) <| And.intro (@eq_bo_t) <| And.intro (@eq_bo_f) <| And.intro (@eq_t_bo) <| And.intro (@eq_f_bo) <| And.intro (@eq_tt) <| And.intro (@eq_ff) <| And.intro (@eq_tf) <| And.intro (@eq_ft) <| And.intro (@un_not_t) <| And.intro (@un_not_f) <| And.intro (@selE_t) <| And.intro (@selE_f) <| And.intro (@get_set') <| And.intro (@decide_true) <| And.intro (@decide_false) <| And.intro (@Bool.not_true) <| And.intro (@Bool.not_false) <| And.intro (@cond_true.{1}) <| And.intro (@cond_false.{1}) <| And.intro (@Int.cast_ofNat_Int) <| And.intro (@new_eq) <| And.intro (@ext_ext) <| And.intro (@nb_nb) <| And.intro (@next_ext) <| And.intro (@next_set) <| And.intro (@get_set_eq) <| And.intro (@get_set_ne) <| (@get_ext_old)
/-- Laws of reckoning, all in one. -/
theorem zz4 : type_of% (And.intro (@get_ext_nb) <| And.intro (@get_ext_nb') <| And.intro (@load_ptr') <| And.intro (@ldB_cells) <| And.intro (@part_none) <| And.intro (@part_some) <| And.intro (@store_ptr') <| And.intro (@stB_some) <| And.intro (@write_eq) <| And.intro (@wrB_cells) <| And.intro (@set_ext_nb) <| And.intro (@set_ext_nb') <| And.intro (@set_ext_old) <| And.intro (@cells_int) <| And.intro (@cells_bool) <| And.intro (@cells_bo) <| And.intro (@cells_str) <| And.intro (@cells_nilptr) <| And.intro (@cells_ptr) <| And.intro (@cells_nilslice) <| And.intro (@cells_slice) <| And.intro (@cells_nilmap) <| And.intro (@cells_map) <| And.intro (@cells_nilfunc) <| And.intro (@cells_func) <| And.intro (@cells_niliface) <| And.intro (@cells_iface) <| And.intro (@cells_agg) <| And.intro (@fill_nil) <| And.intro (@fill_cons) <| And.intro (@fillB_some) <| And.intro (@evOp_box') <| And.intro (@boxE_some) <| And.intro (@evOp_alloc') <| And.intro (@evOp_mkmap') <| And.intro (@get_bump) <| And.intro (@next_bump) <| And.intro (@set_bump) <| And.intro (@load_bump) <| And.intro (@nb_lt) <| And.intro (@nb_inj) <| And.intro (@lt_nb) <| And.intro (@eq_agg) <| And.intro (@eqs_nil) <| And.intro (@eqs_cons) <| And.intro (@eqsE_some) <| And.intro (@andO_true) <| And.intro (@andO_false) <| And.intro (@andO_t) <| (@andO_f)) :=
  And.intro (@get_ext_nb) <| And.intro (@get_ext_nb') <| And.intro (@load_ptr') <| And.intro (@ldB_cells) <| And.intro (@part_none) <| And.intro (@part_some) <| And.intro (@store_ptr') <| And.intro (@stB_some) <| And.intro (@write_eq) <| And.intro (@wrB_cells) <| And.intro (@set_ext_nb) <| And.intro (@set_ext_nb') <| And.intro (@set_ext_old) <| And.intro (@cells_int) <| And.intro (@cells_bool) <| And.intro (@cells_bo) <| And.intro (@cells_str) <| And.intro (@cells_nilptr) <| And.intro (@cells_ptr) <| And.intro (@cells_nilslice) <| And.intro (@cells_slice) <| And.intro (@cells_nilmap) <| And.intro (@cells_map) <| And.intro (@cells_nilfunc) <| And.intro (@cells_func) <| And.intro (@cells_niliface) <| And.intro (@cells_iface) <| And.intro (@cells_agg) <| And.intro (@fill_nil) <| And.intro (@fill_cons) <| And.intro (@fillB_some) <| And.intro (@evOp_box') <| And.intro (@boxE_some) <| And.intro (@evOp_alloc') <| And.intro (@evOp_mkmap') <| And.intro (@get_bump) <| And.intro (@next_bump) <| And.intro (@set_bump) <| And.intro (@load_bump) <| And.intro (@nb_lt) <| And.intro (@nb_inj) <| And.intro (@lt_nb) <| And.intro (@eq_agg) <| And.intro (@eqs_nil) <| And.intro (@eqs_cons) <| And.intro (@eqsE_some) <| And.intro (@andO_true) <| And.intro (@andO_false) <| And.intro (@andO_t) <| (@andO_f)
/-- Laws of reckoning, all in one. -/
theorem zz5 : type_of% (And.intro (@andO_dec) <| And.intro (@res_cell) <| And.intro (@rcE_some) <| And.intro (@List.length_cons.{0}) <| And.intro (@List.length_nil.{0}) <| And.intro (@Nat.zero_add) <| And.intro (@Nat.add_zero) <| And.intro (@List.take_succ_cons.{0}) <| And.intro (@List.take_zero.{0}) <| And.intro (@List.take_nil.{0}) <| And.intro (@List.drop_succ_cons.{0}) <| And.intro (@List.drop_zero.{0}) <| And.intro (@List.drop_nil.{0}) <| And.intro (@List.getElem?_cons_zero.{0}) <| And.intro (@List.getElem?_cons_succ.{0}) <| And.intro (@List.getElem?_nil.{0}) <| And.intro (@Option.getD_some.{0}) <| And.intro (@List.set_cons_zero.{0}) <| And.intro (@List.set_cons_succ.{0}) <| And.intro (@Nat.le_refl) <| And.intro (@ne_eq.{1}) <| And.intro (@Bool.or_true) <| And.intro (@Bool.or_false) <| And.intro (@Bool.true_or) <| And.intro (@Bool.false_or) <| And.intro (@Bool.and_true) <| And.intro (@Bool.true_and) <| And.intro (@Bool.and_false) <| And.intro (@Bool.false_and) <| And.intro (@eq_pn) <| And.intro (@eq_np) <| And.intro (@eq_nn) <| And.intro (@eq_sn) <| And.intro (@eq_ns) <| And.intro (@eq_nsns) <| And.intro (@evOp_bslice1) <| And.intro (@evOp_bslice0) <| (@bsE_some)) :=
  And.intro (@andO_dec) <| And.intro (@res_cell) <| And.intro (@rcE_some) <| And.intro (@List.length_cons.{0}) <| And.intro (@List.length_nil.{0}) <| And.intro (@Nat.zero_add) <| And.intro (@Nat.add_zero) <| And.intro (@List.take_succ_cons.{0}) <| And.intro (@List.take_zero.{0}) <| And.intro (@List.take_nil.{0}) <| And.intro (@List.drop_succ_cons.{0}) <| And.intro (@List.drop_zero.{0}) <| And.intro (@List.drop_nil.{0}) <| And.intro (@List.getElem?_cons_zero.{0}) <| And.intro (@List.getElem?_cons_succ.{0}) <| And.intro (@List.getElem?_nil.{0}) <| And.intro (@Option.getD_some.{0}) <| And.intro (@List.set_cons_zero.{0}) <| And.intro (@List.set_cons_succ.{0}) <| And.intro (@Nat.le_refl) <| And.intro (@ne_eq.{1}) <| And.intro (@Bool.or_true) <| And.intro (@Bool.or_false) <| And.intro (@Bool.true_or) <| And.intro (@Bool.false_or) <| And.intro (@Bool.and_true) <| And.intro (@Bool.true_and) <| And.intro (@Bool.and_false) <| And.intro (@Bool.false_and) <| And.intro (@eq_pn) <| And.intro (@eq_np) <| And.intro (@eq_nn) <| And.intro (@eq_sn) <| And.intro (@eq_ns) <| And.intro (@eq_nsns) <| And.intro (@evOp_bslice1) <| And.intro (@evOp_bslice0) <| (@bsE_some)
/-- Laws of reckoning, all in one. -/
theorem zz6 : type_of% (And.intro (@srt_mov) <| And.intro (@srt_alloc) <| And.intro (@srt_box) <| And.intro (@srt_build) <| And.intro (@srt_bslice) <| And.intro (@srt_store) <| And.intro (@srt_nilck) <| And.intro (@srt_bin) <| And.intro (@srt_eq) <| And.intro (@srt_un) <| And.intro (@srt_iface) <| And.intro (@srt_mkfn) <| And.intro (@srt_mkmap) <| And.intro (@srt_mkslice) <| And.intro (@srt_slstr) <| And.intro (@srt_slsl) <| And.intro (@srt_slarr) <| And.intro (@srt_faddr) <| And.intro (@srt_fld) <| And.intro (@srt_iaddr) <| And.intro (@srt_iaddrArr) <| And.intro (@srt_idxstr) <| And.intro (@srt_idxagg) <| And.intro (@srt_lookup) <| And.intro (@srt_mapupd) <| And.intro (@srt_delete) <| And.intro (@srt_lenmap) <| And.intro (@srt_tassert) <| And.intro (@srt_extract) <| And.intro (@srt_len) <| And.intro (@srt_lenstr) <| And.intro (@srt_lenarr) <| And.intro (@srt_cap) <| And.intro (@srt_max) <| And.intro (@srt_min) <| And.intro (@srt_append) <| And.intro (@srt_copy) <| And.intro (@srt_pick) <| And.intro (@srt_cv_int) <| And.intro (@srt_cv_same) <| And.intro (@srt_cv_bytes) <| And.intro (@srt_cv_text) <| And.intro (@exec_draw') <| And.intro (@drw_nil) <| And.intro (@thenL_some) <| And.intro (@ifB_true) <| And.intro (@drw_v0) <| And.intro (@drw_v1) <| And.intro (@thenD_ret) <| (@chk_nil)) :=
  And.intro (@srt_mov) <| And.intro (@srt_alloc) <| And.intro (@srt_box) <| And.intro (@srt_build) <| And.intro (@srt_bslice) <| And.intro (@srt_store) <| And.intro (@srt_nilck) <| And.intro (@srt_bin) <| And.intro (@srt_eq) <| And.intro (@srt_un) <| And.intro (@srt_iface) <| And.intro (@srt_mkfn) <| And.intro (@srt_mkmap) <| And.intro (@srt_mkslice) <| And.intro (@srt_slstr) <| And.intro (@srt_slsl) <| And.intro (@srt_slarr) <| And.intro (@srt_faddr) <| And.intro (@srt_fld) <| And.intro (@srt_iaddr) <| And.intro (@srt_iaddrArr) <| And.intro (@srt_idxstr) <| And.intro (@srt_idxagg) <| And.intro (@srt_lookup) <| And.intro (@srt_mapupd) <| And.intro (@srt_delete) <| And.intro (@srt_lenmap) <| And.intro (@srt_tassert) <| And.intro (@srt_extract) <| And.intro (@srt_len) <| And.intro (@srt_lenstr) <| And.intro (@srt_lenarr) <| And.intro (@srt_cap) <| And.intro (@srt_max) <| And.intro (@srt_min) <| And.intro (@srt_append) <| And.intro (@srt_copy) <| And.intro (@srt_pick) <| And.intro (@srt_cv_int) <| And.intro (@srt_cv_same) <| And.intro (@srt_cv_bytes) <| And.intro (@srt_cv_text) <| And.intro (@exec_draw') <| And.intro (@drw_nil) <| And.intro (@thenL_some) <| And.intro (@ifB_true) <| And.intro (@drw_v0) <| And.intro (@drw_v1) <| And.intro (@thenD_ret) <| (@chk_nil)
/-- Laws of reckoning, all in one. -/
theorem zz7 : type_of% (And.intro (@chk_cons) <| And.intro (@snap_nil) <| And.intro (@snap_cons) <| And.intro (@pair_nil) <| And.intro (@pair_cons) <| And.intro (@stands_eq) <| And.intro (@standE_self) <| And.intro (@noL_nil) <| And.intro (@noL_cons) <| And.intro (@noA_nil) <| And.intro (@noA_cons) <| And.intro (@drw_load0) <| And.intro (@drw_load1) <| And.intro (@drw_v30) <| And.intro (@drw_v31) <| And.intro (@drw_call0) <| And.intro (@drw_call1) <| And.intro (@retO_ret) <| And.intro (@drw_gv0) <| And.intro (@drw_gv1) <| And.intro (@drw_gld0) <| And.intro (@drw_gld1) <| And.intro (@drw_gv30) <| And.intro (@drw_gv31) <| And.intro (@drw_gcall0) <| And.intro (@drw_gcall1) <| And.intro (@gE_bo_t) <| And.intro (@gE_bo_f) <| And.intro (@gE_tt) <| And.intro (@gE_tf) <| And.intro (@gE_ft) <| And.intro (@gE_ff) <| And.intro (@gE_undef) <| And.intro (@gE_gv_t) <| And.intro (@gE_gv_f) <| And.intro (@gE_gt_t) <| And.intro (@gE_gt_f) <| And.intro (@gE_gf_t) <| And.intro (@gE_gf_f) <| And.intro (@told_bool) <| And.intro (@told_bo) <| And.intro (@told_int) <| And.intro (@told_str) <| And.intro (@told_nilptr) <| And.intro (@told_ptr) <| And.intro (@told_nilslice) <| And.intro (@told_slice) <| And.intro (@told_nilmap) <| And.intro (@told_map) <| (@told_nilfunc)) :=
  And.intro (@chk_cons) <| And.intro (@snap_nil) <| And.intro (@snap_cons) <| And.intro (@pair_nil) <| And.intro (@pair_cons) <| And.intro (@stands_eq) <| And.intro (@standE_self) <| And.intro (@noL_nil) <| And.intro (@noL_cons) <| And.intro (@noA_nil) <| And.intro (@noA_cons) <| And.intro (@drw_load0) <| And.intro (@drw_load1) <| And.intro (@drw_v30) <| And.intro (@drw_v31) <| And.intro (@drw_call0) <| And.intro (@drw_call1) <| And.intro (@retO_ret) <| And.intro (@drw_gv0) <| And.intro (@drw_gv1) <| And.intro (@drw_gld0) <| And.intro (@drw_gld1) <| And.intro (@drw_gv30) <| And.intro (@drw_gv31) <| And.intro (@drw_gcall0) <| And.intro (@drw_gcall1) <| And.intro (@gE_bo_t) <| And.intro (@gE_bo_f) <| And.intro (@gE_tt) <| And.intro (@gE_tf) <| And.intro (@gE_ft) <| And.intro (@gE_ff) <| And.intro (@gE_undef) <| And.intro (@gE_gv_t) <| And.intro (@gE_gv_f) <| And.intro (@gE_gt_t) <| And.intro (@gE_gt_f) <| And.intro (@gE_gf_t) <| And.intro (@gE_gf_f) <| And.intro (@told_bool) <| And.intro (@told_bo) <| And.intro (@told_int) <| And.intro (@told_str) <| And.intro (@told_nilptr) <| And.intro (@told_ptr) <| And.intro (@told_nilslice) <| And.intro (@told_slice) <| And.intro (@told_nilmap) <| And.intro (@told_map) <| (@told_nilfunc)
/-- Laws of reckoning, all in one. -/
theorem zz8 : type_of% (And.intro (@told_niliface) <| And.intro (@told_undef) <| And.intro (@told_agg) <| And.intro (@told_tuple) <| And.intro (@told_iface) <| And.intro (@told_func) <| And.intro (@tolds_nil) <| And.intro (@tolds_cons) <| And.intro (@ifF_ptr) <| And.intro (@ifF_fptr) <| And.intro (@old_nil) <| And.intro (@old_cons) <| And.intro (@Nat.beq_refl) <| And.intro (@evOp_len') <| And.intro (@lenE_nil) <| And.intro (@lenE_slice) <| And.intro (@lenE_fz) <| And.intro (@lenE_row) <| And.intro (@optI_some) <| And.intro (@evOp_iaddr') <| And.intro (@iaddrE_slice) <| And.intro (@iaddrE_fz) <| And.intro (@iaddrE_row) <| And.intro (@ldF_some) <| And.intro (@load_fptr) <| And.intro (@source_fz) <| And.intro (@source_row) <| And.intro (@cells_fz) <| And.intro (@cells_row) <| And.intro (@cells_fptr) <| And.intro (@eq_fn) <| And.intro (@eq_nf) <| And.intro (@eq_rn) <| And.intro (@part2_some) <| And.intro (@consO_some) <| And.intro (@frzL_nil) <| And.intro (@frzL_cons) <| And.intro (@frzV_undef) <| And.intro (@frzV_bool) <| And.intro (@frzV_bo) <| And.intro (@frzV_int) <| And.intro (@frzV_str) <| And.intro (@frzV_nilslice) <| And.intro (@frzV_nilptr) <| And.intro (@frzV_niliface) <| And.intro (@frzV_fz) <| And.intro (@frzV_row) <| And.intro (@frzV_agg) <| And.intro (@frzV_tuple) <| (@closed_row)) :=
  And.intro (@told_niliface) <| And.intro (@told_undef) <| And.intro (@told_agg) <| And.intro (@told_tuple) <| And.intro (@told_iface) <| And.intro (@told_func) <| And.intro (@tolds_nil) <| And.intro (@tolds_cons) <| And.intro (@ifF_ptr) <| And.intro (@ifF_fptr) <| And.intro (@old_nil) <| And.intro (@old_cons) <| And.intro (@Nat.beq_refl) <| And.intro (@evOp_len') <| And.intro (@lenE_nil) <| And.intro (@lenE_slice) <| And.intro (@lenE_fz) <| And.intro (@lenE_row) <| And.intro (@optI_some) <| And.intro (@evOp_iaddr') <| And.intro (@iaddrE_slice) <| And.intro (@iaddrE_fz) <| And.intro (@iaddrE_row) <| And.intro (@ldF_some) <| And.intro (@load_fptr) <| And.intro (@source_fz) <| And.intro (@source_row) <| And.intro (@cells_fz) <| And.intro (@cells_row) <| And.intro (@cells_fptr) <| And.intro (@eq_fn) <| And.intro (@eq_nf) <| And.intro (@eq_rn) <| And.intro (@part2_some) <| And.intro (@consO_some) <| And.intro (@frzL_nil) <| And.intro (@frzL_cons) <| And.intro (@frzV_undef) <| And.intro (@frzV_bool) <| And.intro (@frzV_bo) <| And.intro (@frzV_int) <| And.intro (@frzV_str) <| And.intro (@frzV_nilslice) <| And.intro (@frzV_nilptr) <| And.intro (@frzV_niliface) <| And.intro (@frzV_fz) <| And.intro (@frzV_row) <| And.intro (@frzV_agg) <| And.intro (@frzV_tuple) <| (@closed_row)
/-- Laws of reckoning, all in one. -/
theorem zz9 : type_of% (And.intro (@closeds_nil) <| And.intro (@closeds_cons) <| And.intro (@closed_fz) <| And.intro (@closed_int) <| And.intro (@closed_bool) <| And.intro (@closed_bo) <| And.intro (@closed_str) <| And.intro (@closed_nilslice) <| And.intro (@closed_agg) <| And.intro (@closed_tuple) <| And.intro (@tagArgs_nil) <| And.intro (@tagArgs_cons) <| And.intro (@tagV_fz) <| And.intro (@tagV_row) <| And.intro (@tagV_int) <| And.intro (@tagV_bool) <| And.intro (@tagV_bo) <| And.intro (@tagV_str) <| And.intro (@tagV_nilslice) <| And.intro (@tagV_agg) <| And.intro (@p0E_some) <| And.intro (@p1E_some) <| And.intro (@callO_some) <| And.intro (@run_p0) <| And.intro (@run_p1) <| And.intro (@frR_ret) <| And.intro (@frR_iF) <| And.intro (@Flat_int) <| And.intro (@Flat_bool) <| And.intro (@Flat_bo) <| And.intro (@Flat_str) <| And.intro (@Flat_agg) <| And.intro (@Flat_tuple) <| And.intro (@flats_nil) <| And.intro (@flats_cons) <| And.intro (@Bool.and_self) <| And.intro (@List.getElem?_map.{0,0}) <| And.intro (@List.length_map.{0,0}) <| And.intro (@evOp_slsl') <| And.intro (@slslF_nil) <| And.intro (@slslF_some) <| And.intro (@slslF_none) <| And.intro (@slB_cells) <| And.intro (@slslF_row) <| And.intro (@slslF_fz) <| (@List.isEmpty_nil.{0})) :=
  And.intro (@closeds_nil) <| And.intro (@closeds_cons) <| And.intro (@closed_fz) <| And.intro (@closed_int) <| And.intro (@closed_bool) <| And.intro (@closed_bo) <| And.intro (@closed_str) <| And.intro (@closed_nilslice) <| And.intro (@closed_agg) <| And.intro (@closed_tuple) <| And.intro (@tagArgs_nil) <| And.intro (@tagArgs_cons) <| And.intro (@tagV_fz) <| And.intro (@tagV_row) <| And.intro (@tagV_int) <| And.intro (@tagV_bool) <| And.intro (@tagV_bo) <| And.intro (@tagV_str) <| And.intro (@tagV_nilslice) <| And.intro (@tagV_agg) <| And.intro (@p0E_some) <| And.intro (@p1E_some) <| And.intro (@callO_some) <| And.intro (@run_p0) <| And.intro (@run_p1) <| And.intro (@frR_ret) <| And.intro (@frR_iF) <| And.intro (@Flat_int) <| And.intro (@Flat_bool) <| And.intro (@Flat_bo) <| And.intro (@Flat_str) <| And.intro (@Flat_agg) <| And.intro (@Flat_tuple) <| And.intro (@flats_nil) <| And.intro (@flats_cons) <| And.intro (@Bool.and_self) <| And.intro (@List.getElem?_map.{0,0}) <| And.intro (@List.length_map.{0,0}) <| And.intro (@evOp_slsl') <| And.intro (@slslF_nil) <| And.intro (@slslF_some) <| And.intro (@slslF_none) <| And.intro (@slB_cells) <| And.intro (@slslF_row) <| And.intro (@slslF_fz) <| (@List.isEmpty_nil.{0})

end Go.Proofs.Ytjgbofonigpjaaa.Ev
end
section
namespace Go.Proofs.Ytjgbofonigpjaaa.Ev
def LetterP (n : Int) : Prop := (97 ≤ n ∧ n ≤ 122 ∨ 65 ≤ n ∧ n ≤ 90) ∨ n = 95
def DigitP (n : Int) : Prop := 48 ≤ n ∧ n ≤ 57
def BlankP (n : Int) : Prop := ((n = 32 ∨ n = 9) ∨ n = 10) ∨ n = 13
instance (n : Int) : Decidable (LetterP n) := by unfold LetterP; infer_instance
instance (n : Int) : Decidable (DigitP n) := by unfold DigitP; infer_instance
instance (n : Int) : Decidable (BlankP n) := by unfold BlankP; infer_instance
abbrev Txt := List UInt8
abbrev cI (c : UInt8) : Int := (c.toNat : Int)
def wordsL : List Txt := [[102, 110], [118, 97, 114], [105, 102], [101, 108, 115, 101], [119, 104, 105, 108, 101], [102, 111, 114], [98, 114, 101, 97, 107], [99, 111, 110, 116, 105, 110, 117, 101], [114, 101, 116, 117, 114, 110], [112, 114, 105, 110, 116], [108, 101, 110], [110, 101, 119], [116, 114, 117, 101], [102, 97, 108, 115, 101], [110, 105, 108], [105, 110, 116], [98, 111, 111, 108], [97, 114, 114]]
def twoL : List Txt := [[124, 124], [38, 38], [61, 61], [33, 61], [60, 61], [62, 61], [43, 37], [45, 37], [42, 37]]
def oneL : Txt := [60, 62, 43, 45, 42, 47, 37, 33, 61, 40, 41, 123, 125, 91, 93, 44, 59]
/-- How many bytes of blanks and remarks a text begins with, within a remark or not. -/
def skipF : Bool → Txt → Nat
  | _, [] => 0
  | r, c :: s => let r1 := if cI c = 10 then false else if cI c = 35 then true else r
    if r1 = false ∧ ¬ BlankP (cI c) then 0 else 1 + skipF r1 s
/-- A number's digits, behind others. -/
def numF : Nat → Txt → Option Nat
  | n, [] => some n
  | n, c :: s => if 922337203685477580 < n ∨ n = 922337203685477580 ∧ 7 < c.toNat - 48 then none else numF (10 * n + (c.toNat - 48)) s
def signF (s : Txt) : Nat := if 2 ≤ s.length ∧ s.take 2 ∈ twoL then 2 else if ∃ c ∈ oneL, s[0]? = some c then 1 else 0
/-- Of how many bytes a text begins that are of a sort. -/
def lead (p : Int → Prop) [DecidablePred p] : Txt → Nat
  | [] => 0
  | c :: s => if p (cI c) then 1 + lead p s else 0
def nameP (s : Txt) : Prop := (∀ (i : Nat) (c : UInt8), s[i]? = some c → LetterP (cI c) ∨ i ≠ 0 ∧ DigitP (cI c)) ∧ 0 < s.length ∧ s.length ≤ 32 ∧ s ∉ wordsL
/-- How many bytes the word has that a text begins with. -/
def wordF : Txt → Nat
  | [] => 0
  | c :: s => if LetterP (cI c) then 1 + lead (fun n => LetterP n ∨ DigitP n) s else 0
structure Tok where
  kind : Nat
  text : Txt
  n : Nat
  pos : Nat
deriving DecidableEq
inductive Res (α : Type) where
  | ok (a : α)
  | bad (e p : Nat)
def Res.map {α β : Type} (f : α → β) : Res α → Res β
  | .ok a => .ok (f a)
  | .bad e p => .bad e p
def Res.bind {α β : Type} (x : Res α) (f : α → Res β) : Res β := match x with
  | .ok a => f a
  | .bad e p => .bad e p
def numT (k : Txt) (p : Nat) : Res Tok := match numF 0 k with
  | some n => .ok ⟨2, k, n, p⟩
  | none => .bad 7 p
/-- The token that a text begins with, which stands at a place. -/
def oneF (s : Txt) (p : Nat) : Res Tok :=
  if ∃ c ∈ s[0]?, DigitP (cI c) then
    numT (s.take (lead DigitP s)) p
  else
    let k := wordF s
    if 0 < k ∧ s.take k ∈ wordsL then .ok ⟨3, s.take k, 0, p⟩
    else if 32 < k then .bad 3 p
    else if 0 < k then .ok ⟨1, s.take k, 0, p⟩
    else if signF s = 0 then .bad 6 p
    else .ok ⟨4, s.take (signF s), 0, p⟩
/-- Tokens from a place on, at which none is skipped any more. -/
def toksF : Nat → Txt → Nat → Res (List Tok)
  | 0, _, p => .bad 0 p
  | _ + 1, [], _ => .ok []
  | k + 1, s, p => match oneF s p with
    | .bad e q => .bad e q
    | .ok t =>
      let r := s.drop t.text.length
      let j := skipF false r
      (toksF k (r.drop j) (p + t.text.length + j)).map (t :: ·)
def lexF (s : Txt) : Res (List Tok) :=
  if 65536 < s.length then .bad 3 0
  else (toksF (s.length + 1) (s.drop (skipF false s)) (skipF false s)).map (· ++ [⟨0, [], 0, s.length⟩])
end Go.Proofs.Ytjgbofonigpjaaa.Ev
end
section
namespace Go.Proofs.Ytjgbofonigpjaaa.Ev
open Go
set_option linter.unusedSimpArgs false
set_option maxRecDepth 10000
set_option maxHeartbeats 4000000
theorem letter_eq {n : Int} : pureR B K n_r05_Letter [.int .u8 n] = some (bo (LetterP n)) := by
  rw [pure_at (by simp [F_r05_Letter])]
  simp +contextual -implicitDefEqProofs (maxSteps := 1000000) (maxDischargeDepth := 8) only [F_r05_Letter, LetterP, zz0, zz1, zz2, zz3, zz4, zz5, zz6, zz7, zz8, zz9, argsF, reduceIte, reduceCtorEq, Nat.reduceEqDiff, Nat.reduceBEq, Nat.reduceAdd, Int.reduceLT, Int.reduceLE, Int.reduceEq, Int.reduceToNat, Int.reduceNeg, Nat.reduceLeDiff, Int.reducePow, implies_true, UInt8.reduceToNat, Int.reduceSub, Int.reduceAdd, Nat.reduceLT, Nat.reduceMul, Nat.reduceSub, Nat.reduceBNe]
theorem digit_eq {n : Int} : pureR B K n_r05_Digit [.int .u8 n] = some (bo (DigitP n)) := by
  rw [pure_at (by simp [F_r05_Digit])]
  simp +contextual -implicitDefEqProofs (maxSteps := 1000000) (maxDischargeDepth := 8) only [F_r05_Digit, DigitP, zz0, zz1, zz2, zz3, zz4, zz5, zz6, zz7, zz8, zz9, argsF, reduceIte, reduceCtorEq, Nat.reduceEqDiff, Nat.reduceBEq, Nat.reduceAdd, Int.reduceLT, Int.reduceLE, Int.reduceEq, Int.reduceToNat, Int.reduceNeg, Nat.reduceLeDiff, Int.reducePow, implies_true, UInt8.reduceToNat, Int.reduceSub, Int.reduceAdd, Nat.reduceLT, Nat.reduceMul, Nat.reduceSub, Nat.reduceBNe]
theorem blank_eq {n : Int} : pureR B K n_r05_Blank [.int .u8 n] = some (bo (BlankP n)) := by
  rw [pure_at (by simp [F_r05_Blank])]
  simp +contextual -implicitDefEqProofs (maxSteps := 1000000) (maxDischargeDepth := 8) only [F_r05_Blank, BlankP, zz0, zz1, zz2, zz3, zz4, zz5, zz6, zz7, zz8, zz9, argsF, reduceIte, reduceCtorEq, Nat.reduceEqDiff, Nat.reduceBEq, Nat.reduceAdd, Int.reduceLT, Int.reduceLE, Int.reduceEq, Int.reduceToNat, Int.reduceNeg, Nat.reduceLeDiff, Int.reducePow, implies_true, UInt8.reduceToNat, Int.reduceSub, Int.reduceAdd, Nat.reduceLT, Nat.reduceMul, Nat.reduceSub, Nat.reduceBNe]
/-- A row of texts. -/
def strs (l : List Txt) : List (List EV) := l.map fun s => [.str s]
theorem words_eq : pureR B K n_r05_Words [] = some (.fz 0 1 (strs wordsL)) := pure_closed 10 fun call => by kernel_rfl
theorem strs_get {l : List Txt} {i : Nat} : (strs l)[i]? = (l[i]?).map fun s => [.str s] := by unfold strs; rw [List.getElem?_map]
theorem strs_len {l : List Txt} : (strs l).length = l.length := by unfold strs; rw [List.length_map]
theorem wrap_succ {i : Nat} (h : i < 9223372036854775807) : IntKind.i64.wrap ((i : Int) + 1) = ((i + 1 : Nat) : Int) := by rw [wrap_i64 (by omega) (by omega)]; omega
theorem word_loop {ws : List Txt} {s : Txt} (hw : ws.length < 1000) {m0 : Mem} {fr : Fr} (h0 : fr.get 0 = .str s) (h3 : fr.get 3 = .fz 0 1 (strs ws)) (h4 : fr.get 4 = .int .i64 0) (hd : fr.defers = []) :
    ∃ o, exec U (.loop F_r05_Word_l0) fr m0 = some o ∧ ((s ∈ ws ∧ ∃ fr', o = .ret fr' m0 ∧ fr'.get 2 = .bool true ∧ fr'.defers = []) ∨ (s ∉ ws ∧ ∃ fr', o = .exit 0 fr' m0 ∧ fr'.defers = [])) := by
  refine loop_w (σ := Nat) (fun i fr m => m = m0 ∧ i ≤ ws.length ∧ s ∉ ws.take i ∧ fr.get 0 = .str s ∧ fr.get 3 = .fz 0 1 (strs ws) ∧ fr.get 4 = .int .i64 (i : Int) ∧ fr.defers = []) (fun i => ws.length - i) _ ?_ 0 fr m0 ⟨rfl, Nat.zero_le _, by simp, h0, h3, h4, hd⟩
  rintro i fr m ⟨rfl, hi, hn, h0, h3, h4, hd⟩
  generalize hX : exec U F_r05_Word_l0 fr m = X
  by_cases hlt : i < ws.length
  · have hc : (i : Int) < (ws.length : Int) := by omega
    have hg : ws[i]? = some ws[i] := List.getElem?_eq_getElem hlt
    have hw1 := wrap_succ (i := i) (by omega)
    simp +contextual -implicitDefEqProofs (maxSteps := 1000000) (maxDischargeDepth := 8) only [F_r05_Word_l0, h0, h3, h4, hd, hc, hg, hlt, hw1, idx_cast, strs_get, strs_len, zz0, zz1, zz2, zz3, zz4, zz5, zz6, zz7, zz8, zz9, argsF, reduceIte, reduceCtorEq, Nat.reduceEqDiff, Nat.reduceBEq, Nat.reduceAdd, Int.reduceLT, Int.reduceLE, Int.reduceEq, Int.reduceToNat, Int.reduceNeg, Nat.reduceLeDiff, Int.reducePow, implies_true, UInt8.reduceToNat, Int.reduceSub, Int.reduceAdd, Nat.reduceLT, Nat.reduceMul, Nat.reduceSub, Nat.reduceBNe] at hX
    subst hX
    refine lw_iF (fun he => lw_ret (.inl ⟨he ▸ List.getElem_mem hlt, _, rfl, ?_, ?_⟩)) (fun he => lw_norm (i + 1) (by omega) ⟨rfl, hlt, ?_, ?_, ?_, ?_, ?_⟩)
    case refine_3 =>
      rw [List.take_succ_eq_append_getElem hlt, List.mem_append]
      rintro (q | q)
      · exact hn q
      · exact he (List.mem_singleton.1 q).symm
    all_goals simp only [h0, h3, hd, get_set', selE_t, selE_f, Nat.reduceBEq, set_defers, fr00_get, fr00_defers, put_some, put_none ]
  · have hc : ¬ ((i : Int) < (ws.length : Int)) := by omega
    simp +contextual -implicitDefEqProofs (maxSteps := 1000000) (maxDischargeDepth := 8) only [F_r05_Word_l0, h0, h3, h4, hd, hc, strs_len, zz0, zz1, zz2, zz3, zz4, zz5, zz6, zz7, zz8, zz9, argsF, reduceIte, reduceCtorEq, Nat.reduceEqDiff, Nat.reduceBEq, Nat.reduceAdd, Int.reduceLT, Int.reduceLE, Int.reduceEq, Int.reduceToNat, Int.reduceNeg, Nat.reduceLeDiff, Int.reducePow, implies_true, UInt8.reduceToNat, Int.reduceSub, Int.reduceAdd, Nat.reduceLT, Nat.reduceMul, Nat.reduceSub, Nat.reduceBNe] at hX
    subst hX
    have : ws.take i = ws := List.take_of_length_le (by omega)
    rw [this] at hn
    exact lw_exit (.inr ⟨hn, _, rfl, by simp only [hd, get_set', selE_t, selE_f, Nat.reduceBEq, set_defers, fr00_get, fr00_defers, put_some, put_none ]⟩)
theorem word_eq {s : Txt} : pureR B K n_r05_Word [.str s] = some (bo (s ∈ wordsL)) := by
  rw [pure_at (by simp [F_r05_Word])]
  generalize hL : exec (UT B K) (ICode.loop F_r05_Word_l0) = L
  simp +contextual -implicitDefEqProofs (maxSteps := 1000000) (maxDischargeDepth := 8) only [F_r05_Word, words_eq, zz0, zz1, zz2, zz3, zz4, zz5, zz6, zz7, zz8, zz9, argsF, reduceIte, reduceCtorEq, Nat.reduceEqDiff, Nat.reduceBEq, Nat.reduceAdd, Int.reduceLT, Int.reduceLE, Int.reduceEq, Int.reduceToNat, Int.reduceNeg, Nat.reduceLeDiff, Int.reducePow, implies_true, UInt8.reduceToNat, Int.reduceSub, Int.reduceAdd, Nat.reduceLT, Nat.reduceMul, Nat.reduceSub, Nat.reduceBNe]
  subst hL
  generalize hX : exec _ (.loop F_r05_Word_l0) _ _ = X
  obtain ⟨o, rfl, h⟩ := looped hX (word_loop (ws := wordsL) (s := s) (by decide) (by simp only [get_set', selE_t, selE_f, Nat.reduceBEq, set_defers, fr00_get, fr00_defers, put_some, put_none ]) (by simp only [get_set', selE_t, selE_f, Nat.reduceBEq, set_defers, fr00_get, fr00_defers, put_some, put_none ]) (by simp only [get_set', selE_t, selE_f, Nat.reduceBEq, set_defers, fr00_get, fr00_defers, put_some, put_none ]) (by simp only [get_set', selE_t, selE_f, Nat.reduceBEq, set_defers, fr00_get, fr00_defers, put_some, put_none ]))
  rcases h with ⟨h, fr', rfl, h2, hd⟩ | ⟨h, fr', rfl, hd⟩
  · simp +contextual -implicitDefEqProofs (maxSteps := 1000000) (maxDischargeDepth := 8) only [h, h2, hd, bo_tt, zz0, zz1, zz2, zz3, zz4, zz5, zz6, zz7, zz8, zz9, argsF, reduceIte, reduceCtorEq, Nat.reduceEqDiff, Nat.reduceBEq, Nat.reduceAdd, Int.reduceLT, Int.reduceLE, Int.reduceEq, Int.reduceToNat, Int.reduceNeg, Nat.reduceLeDiff, Int.reducePow, implies_true, UInt8.reduceToNat, Int.reduceSub, Int.reduceAdd, Nat.reduceLT, Nat.reduceMul, Nat.reduceSub, Nat.reduceBNe]
  · simp +contextual -implicitDefEqProofs (maxSteps := 1000000) (maxDischargeDepth := 8) only [h, hd, bo_ff, zz0, zz1, zz2, zz3, zz4, zz5, zz6, zz7, zz8, zz9, argsF, reduceIte, reduceCtorEq, Nat.reduceEqDiff, Nat.reduceBEq, Nat.reduceAdd, Int.reduceLT, Int.reduceLE, Int.reduceEq, Int.reduceToNat, Int.reduceNeg, Nat.reduceLeDiff, Int.reducePow, implies_true, UInt8.reduceToNat, Int.reduceSub, Int.reduceAdd, Nat.reduceLT, Nat.reduceMul, Nat.reduceSub, Nat.reduceBNe]
/-! ### Skip -/
theorem blank10 : BlankP 10 = True := eq_true (by decide)
theorem drop_cons {α : Type} {s : List α} {i : Nat} (h : i < s.length) : s.drop i = s[i] :: s.drop (i + 1) := List.drop_eq_getElem_cons h
theorem skip_loop {s : Txt} (hs : s.length < 1000000000) {m0 : Mem} {fr : Fr} (h0 : fr.get 0 = .str s) (h3 : fr.get 3 = .bool false) (h4 : fr.get 4 = .int .i64 0) (hd : fr.defers = []) :
    ∃ o, exec U (.loop F_r05_Skip_l0) fr m0 = some o ∧ ((∃ fr', o = .ret fr' m0 ∧ fr'.get 2 = .int .i64 (skipF false s : Int) ∧ fr'.defers = []) ∨ (skipF false s = s.length ∧ ∃ fr', o = .exit 0 fr' m0 ∧ fr'.get 0 = .str s ∧ fr'.defers = [])) := by
  refine loop_w (σ := Nat) (fun i fr m => m = m0 ∧ i ≤ s.length ∧ fr.get 0 = .str s ∧ (∃ r, fr.get 3 = .bool r ∧ skipF false s = i + skipF r (s.drop i)) ∧ fr.get 4 = .int .i64 (i : Int) ∧ fr.defers = []) (fun i => s.length - i) _ ?_ 0 fr m0 ⟨rfl, Nat.zero_le _, h0, ⟨false, h3, by simp⟩, h4, hd⟩
  rintro i fr m ⟨rfl, hi, h0, ⟨r, h3, hr⟩, h4, hd⟩
  generalize hX : exec U F_r05_Skip_l0 fr m = X
  by_cases hlt : i < s.length
  · have hc : (i : Int) < (s.length : Int) := by omega
    have hg : s[i]? = some s[i] := List.getElem?_eq_getElem hlt
    have hw1 := wrap_succ (i := i) (by omega)
    rw [drop_cons hlt, skipF] at hr
    generalize s[i] = c at hg hr
    simp only [cI] at hr
    cases r
    all_goals
      simp +contextual -implicitDefEqProofs (maxSteps := 1000000) (maxDischargeDepth := 8) only [F_r05_Skip_l0, h0, h3, h4, hd, hc, hg, hlt, hw1, idx_cast, blank_eq, blank10, zz0, zz1, zz2, zz3, zz4, zz5, zz6, zz7, zz8, zz9, argsF, reduceIte, reduceCtorEq, Nat.reduceEqDiff, Nat.reduceBEq, Nat.reduceAdd, Int.reduceLT, Int.reduceLE, Int.reduceEq, Int.reduceToNat, Int.reduceNeg, Nat.reduceLeDiff, Int.reducePow, implies_true, UInt8.reduceToNat, Int.reduceSub, Int.reduceAdd, Nat.reduceLT, Nat.reduceMul, Nat.reduceSub, Nat.reduceBNe] at hX
      subst hX
      repeat' refine lw_iF (fun _ => ?_) (fun _ => ?_)
      all_goals first
        | (refine lw_norm (i + 1) (by omega) ⟨rfl, hlt, by simp only [h0, get_set', selE_t, selE_f, Nat.reduceBEq, set_defers, fr00_get, fr00_defers, put_some, put_none ], ⟨_, by simp only [h3, get_set', selE_t, selE_f, Nat.reduceBEq, set_defers, fr00_get, fr00_defers, put_some, put_none ]; rfl, ?_⟩, by simp only [get_set', selE_t, selE_f, Nat.reduceBEq, set_defers, fr00_get, fr00_defers, put_some, put_none ], by simp only [hd, get_set', selE_t, selE_f, Nat.reduceBEq, set_defers, fr00_get, fr00_defers, put_some, put_none ]⟩
           rw [hr]; simp [*, blank10]; omega)
        | (refine lw_ret (Or.inl ⟨_, rfl, ?_, by simp only [hd, get_set', selE_t, selE_f, Nat.reduceBEq, set_defers, fr00_get, fr00_defers, put_some, put_none ]⟩)
           rw [hr]; simp only [get_set', selE_t, selE_f, Nat.reduceBEq, set_defers, fr00_get, fr00_defers, put_some, put_none ]; simp [*])
  · have hc : ¬ ((i : Int) < (s.length : Int)) := by omega
    simp +contextual -implicitDefEqProofs (maxSteps := 1000000) (maxDischargeDepth := 8) only [F_r05_Skip_l0, h0, h3, h4, hd, hc, zz0, zz1, zz2, zz3, zz4, zz5, zz6, zz7, zz8, zz9, argsF, reduceIte, reduceCtorEq, Nat.reduceEqDiff, Nat.reduceBEq, Nat.reduceAdd, Int.reduceLT, Int.reduceLE, Int.reduceEq, Int.reduceToNat, Int.reduceNeg, Nat.reduceLeDiff, Int.reducePow, implies_true, UInt8.reduceToNat, Int.reduceSub, Int.reduceAdd, Nat.reduceLT, Nat.reduceMul, Nat.reduceSub, Nat.reduceBNe] at hX
    subst hX
    obtain rfl : i = s.length := by omega
    rw [List.drop_length] at hr
    simp only [skipF, Nat.add_zero] at hr
    exact lw_exit (.inr ⟨hr, _, rfl, by simp only [h0, get_set', selE_t, selE_f, Nat.reduceBEq, set_defers, fr00_get, fr00_defers, put_some, put_none ], by simp only [hd, get_set', selE_t, selE_f, Nat.reduceBEq, set_defers, fr00_get, fr00_defers, put_some, put_none ]⟩)
theorem skip_eq {s : Txt} (hs : s.length < 1000000000) : pureR B K n_r05_Skip [.str s] = some (.int .i64 (skipF false s : Int)) := by
  rw [pure_at (by simp [F_r05_Skip])]
  generalize hL : exec (UT B K) (ICode.loop F_r05_Skip_l0) = L
  simp +contextual -implicitDefEqProofs (maxSteps := 1000000) (maxDischargeDepth := 8) only [F_r05_Skip, zz0, zz1, zz2, zz3, zz4, zz5, zz6, zz7, zz8, zz9, argsF, reduceIte, reduceCtorEq, Nat.reduceEqDiff, Nat.reduceBEq, Nat.reduceAdd, Int.reduceLT, Int.reduceLE, Int.reduceEq, Int.reduceToNat, Int.reduceNeg, Nat.reduceLeDiff, Int.reducePow, implies_true, UInt8.reduceToNat, Int.reduceSub, Int.reduceAdd, Nat.reduceLT, Nat.reduceMul, Nat.reduceSub, Nat.reduceBNe]
  subst hL
  generalize hX : exec _ (.loop F_r05_Skip_l0) _ _ = X
  obtain ⟨o, rfl, h⟩ := looped hX (skip_loop (s := s) hs (by simp only [get_set', selE_t, selE_f, Nat.reduceBEq, set_defers, fr00_get, fr00_defers, put_some, put_none ]) (by simp only [get_set', selE_t, selE_f, Nat.reduceBEq, set_defers, fr00_get, fr00_defers, put_some, put_none ]) (by simp only [get_set', selE_t, selE_f, Nat.reduceBEq, set_defers, fr00_get, fr00_defers, put_some, put_none ]) (by simp only [get_set', selE_t, selE_f, Nat.reduceBEq, set_defers, fr00_get, fr00_defers, put_some, put_none ]))
  rcases h with ⟨fr', rfl, h2, hd⟩ | ⟨h, fr', rfl, h0, hd⟩
  · simp +contextual -implicitDefEqProofs (maxSteps := 1000000) (maxDischargeDepth := 8) only [h2, hd, zz0, zz1, zz2, zz3, zz4, zz5, zz6, zz7, zz8, zz9, argsF, reduceIte, reduceCtorEq, Nat.reduceEqDiff, Nat.reduceBEq, Nat.reduceAdd, Int.reduceLT, Int.reduceLE, Int.reduceEq, Int.reduceToNat, Int.reduceNeg, Nat.reduceLeDiff, Int.reducePow, implies_true, UInt8.reduceToNat, Int.reduceSub, Int.reduceAdd, Nat.reduceLT, Nat.reduceMul, Nat.reduceSub, Nat.reduceBNe]
  · simp +contextual -implicitDefEqProofs (maxSteps := 1000000) (maxDischargeDepth := 8) only [h, h0, hd, zz0, zz1, zz2, zz3, zz4, zz5, zz6, zz7, zz8, zz9, argsF, reduceIte, reduceCtorEq, Nat.reduceEqDiff, Nat.reduceBEq, Nat.reduceAdd, Int.reduceLT, Int.reduceLE, Int.reduceEq, Int.reduceToNat, Int.reduceNeg, Nat.reduceLeDiff, Int.reducePow, implies_true, UInt8.reduceToNat, Int.reduceSub, Int.reduceAdd, Nat.reduceLT, Nat.reduceMul, Nat.reduceSub, Nat.reduceBNe]
end Go.Proofs.Ytjgbofonigpjaaa.Ev
end
section
namespace Go.Proofs.Ytjgbofonigpjaaa.Ev
open Go
set_option linter.unusedSimpArgs false
set_option maxRecDepth 10000
set_option maxHeartbeats 4000000
theorem number_loop {s : Txt} (hs : s.length < 1000000000) (hdg : ∀ c ∈ s, DigitP (cI c)) {m0 : Mem} {fr : Fr} (h0 : fr.get 0 = .str s) (h4 : fr.get 4 = .int .i64 0) (h5 : fr.get 5 = .int .i64 0) (hd : fr.defers = []) :
    ∃ o, exec U (.loop F_r05_number_l0) fr m0 = some o ∧ ((numF 0 s = none ∧ ∃ fr', o = .ret fr' m0 ∧ fr'.get 2 = .int .i64 0 ∧ fr'.get 3 = .bool false ∧ fr'.defers = []) ∨ (∃ n : Nat, numF 0 s = some n ∧ ∃ fr', o = .exit 0 fr' m0 ∧ fr'.get 4 = .int .i64 (n : Int) ∧ fr'.defers = [])) := by
  refine loop_w (σ := Nat) (fun i fr m => m = m0 ∧ i ≤ s.length ∧ fr.get 0 = .str s ∧ (∃ n : Nat, fr.get 4 = .int .i64 (n : Int) ∧ n ≤ 9223372036854775807 ∧ numF 0 s = numF n (s.drop i)) ∧ fr.get 5 = .int .i64 (i : Int) ∧ fr.defers = []) (fun i => s.length - i) _ ?_ 0 fr m0 ⟨rfl, Nat.zero_le _, h0, ⟨0, h4, by omega, by simp⟩, h5, hd⟩
  rintro i fr m ⟨rfl, hi, h0, ⟨n, h4, hn, hr⟩, h5, hd⟩
  generalize hX : exec U F_r05_number_l0 fr m = X
  by_cases hlt : i < s.length
  · have hc : (i : Int) < (s.length : Int) := by omega
    have hg : s[i]? = some s[i] := List.getElem?_eq_getElem hlt
    have hdc := hdg s[i] (List.getElem_mem hlt)
    have hw1 := wrap_succ (i := i) (by omega)
    rw [drop_cons hlt, numF] at hr
    generalize s[i] = c at hg hr hdc
    unfold DigitP cI at hdc
    have hw2 : IntKind.u8.wrap ((c.toNat : Int) - 48) = (c.toNat : Int) - 48 := by rw [u8_wrap]; omega
    have hw3 : IntKind.i64.wrap ((c.toNat : Int) - 48) = (c.toNat : Int) - 48 := wrap_i64 (by omega) (by omega)
    simp +contextual -implicitDefEqProofs (maxSteps := 1000000) (maxDischargeDepth := 8) only [F_r05_number_l0, h0, h4, h5, hd, hc, hg, hlt, hw1, hw2, hw3, idx_cast, zz0, zz1, zz2, zz3, zz4, zz5, zz6, zz7, zz8, zz9, argsF, reduceIte, reduceCtorEq, Nat.reduceEqDiff, Nat.reduceBEq, Nat.reduceAdd, Int.reduceLT, Int.reduceLE, Int.reduceEq, Int.reduceToNat, Int.reduceNeg, Nat.reduceLeDiff, Int.reducePow, implies_true, UInt8.reduceToNat, Int.reduceSub, Int.reduceAdd, Nat.reduceLT, Nat.reduceMul, Nat.reduceSub, Nat.reduceBNe] at hX
    subst hX
    refine lw_iF (fun hp => lw_ret (Or.inl ⟨?_, _, rfl, ?_, ?_, ?_⟩)) (fun hp => ?_)
    · rw [hr, if_pos (by omega)]
    · simp only [get_set', selE_t, selE_f, Nat.reduceBEq, set_defers, fr00_get, fr00_defers, put_some, put_none ]
    · simp only [get_set', selE_t, selE_f, Nat.reduceBEq, set_defers, fr00_get, fr00_defers, put_some, put_none ]
    · simp only [hd, get_set', selE_t, selE_f, Nat.reduceBEq, set_defers, fr00_get, fr00_defers, put_some, put_none ]
    · have hw4 : IntKind.i64.wrap (10 * (n : Int)) = 10 * (n : Int) := wrap_i64 (by omega) (by omega)
      have hw5 : IntKind.i64.wrap (10 * (n : Int) + ((c.toNat : Int) - 48)) = ((10 * n + (c.toNat - 48) : Nat) : Int) := by rw [wrap_i64 (by omega) (by omega)]; omega
      refine lw_norm (i + 1) (by omega) ⟨rfl, hlt, by simp only [h0, get_set', selE_t, selE_f, Nat.reduceBEq, set_defers, fr00_get, fr00_defers, put_some, put_none ], ⟨10 * n + (c.toNat - 48), by simp only [hw4, hw5, get_set', selE_t, selE_f, Nat.reduceBEq, set_defers, fr00_get, fr00_defers, put_some, put_none ], by omega, ?_⟩, by simp only [get_set', selE_t, selE_f, Nat.reduceBEq, set_defers, fr00_get, fr00_defers, put_some, put_none ], by simp only [hd, get_set', selE_t, selE_f, Nat.reduceBEq, set_defers, fr00_get, fr00_defers, put_some, put_none ]⟩
      rw [hr, if_neg (by omega)]
  · have hc : ¬ ((i : Int) < (s.length : Int)) := by omega
    simp +contextual -implicitDefEqProofs (maxSteps := 1000000) (maxDischargeDepth := 8) only [F_r05_number_l0, h0, h4, h5, hd, hc, zz0, zz1, zz2, zz3, zz4, zz5, zz6, zz7, zz8, zz9, argsF, reduceIte, reduceCtorEq, Nat.reduceEqDiff, Nat.reduceBEq, Nat.reduceAdd, Int.reduceLT, Int.reduceLE, Int.reduceEq, Int.reduceToNat, Int.reduceNeg, Nat.reduceLeDiff, Int.reducePow, implies_true, UInt8.reduceToNat, Int.reduceSub, Int.reduceAdd, Nat.reduceLT, Nat.reduceMul, Nat.reduceSub, Nat.reduceBNe] at hX
    subst hX
    obtain rfl : i = s.length := by omega
    rw [List.drop_length] at hr
    simp only [numF] at hr
    exact lw_exit (Or.inr ⟨n, hr, _, rfl, by simp only [h4, get_set', selE_t, selE_f, Nat.reduceBEq, set_defers, fr00_get, fr00_defers, put_some, put_none ], by simp only [hd, get_set', selE_t, selE_f, Nat.reduceBEq, set_defers, fr00_get, fr00_defers, put_some, put_none ]⟩)
def numV (o : Option Nat) : EV := match o with
  | some n => .tuple [.int .i64 (n : Int), .bool true]
  | none => .tuple [.int .i64 0, .bool false]
theorem number_eq {s : Txt} (hs : s.length < 1000000000) (hdg : ∀ c ∈ s, DigitP (cI c)) : pureR B K n_r05_number [.str s] = some (numV (numF 0 s)) := by
  rw [pure_at (by simp [F_r05_number])]
  generalize hL : exec (UT B K) (ICode.loop F_r05_number_l0) = L
  simp +contextual -implicitDefEqProofs (maxSteps := 1000000) (maxDischargeDepth := 8) only [F_r05_number, zz0, zz1, zz2, zz3, zz4, zz5, zz6, zz7, zz8, zz9, argsF, reduceIte, reduceCtorEq, Nat.reduceEqDiff, Nat.reduceBEq, Nat.reduceAdd, Int.reduceLT, Int.reduceLE, Int.reduceEq, Int.reduceToNat, Int.reduceNeg, Nat.reduceLeDiff, Int.reducePow, implies_true, UInt8.reduceToNat, Int.reduceSub, Int.reduceAdd, Nat.reduceLT, Nat.reduceMul, Nat.reduceSub, Nat.reduceBNe]
  subst hL
  generalize hX : exec _ (.loop F_r05_number_l0) _ _ = X
  obtain ⟨o, rfl, h⟩ := looped hX (number_loop (s := s) hs hdg (by simp only [get_set', selE_t, selE_f, Nat.reduceBEq, set_defers, fr00_get, fr00_defers, put_some, put_none ]) (by simp only [get_set', selE_t, selE_f, Nat.reduceBEq, set_defers, fr00_get, fr00_defers, put_some, put_none ]) (by simp only [get_set', selE_t, selE_f, Nat.reduceBEq, set_defers, fr00_get, fr00_defers, put_some, put_none ]) (by simp only [get_set', selE_t, selE_f, Nat.reduceBEq, set_defers, fr00_get, fr00_defers, put_some, put_none ]))
  rcases h with ⟨h, fr', rfl, h2, h3, hd⟩ | ⟨n, h, fr', rfl, h4, hd⟩
  · simp +contextual -implicitDefEqProofs (maxSteps := 1000000) (maxDischargeDepth := 8) only [h, h2, h3, hd, numV, zz0, zz1, zz2, zz3, zz4, zz5, zz6, zz7, zz8, zz9, argsF, reduceIte, reduceCtorEq, Nat.reduceEqDiff, Nat.reduceBEq, Nat.reduceAdd, Int.reduceLT, Int.reduceLE, Int.reduceEq, Int.reduceToNat, Int.reduceNeg, Nat.reduceLeDiff, Int.reducePow, implies_true, UInt8.reduceToNat, Int.reduceSub, Int.reduceAdd, Nat.reduceLT, Nat.reduceMul, Nat.reduceSub, Nat.reduceBNe]
  · simp +contextual -implicitDefEqProofs (maxSteps := 1000000) (maxDischargeDepth := 8) only [h, h4, hd, numV, zz0, zz1, zz2, zz3, zz4, zz5, zz6, zz7, zz8, zz9, argsF, reduceIte, reduceCtorEq, Nat.reduceEqDiff, Nat.reduceBEq, Nat.reduceAdd, Int.reduceLT, Int.reduceLE, Int.reduceEq, Int.reduceToNat, Int.reduceNeg, Nat.reduceLeDiff, Int.reducePow, implies_true, UInt8.reduceToNat, Int.reduceSub, Int.reduceAdd, Nat.reduceLT, Nat.reduceMul, Nat.reduceSub, Nat.reduceBNe]
/-! ### Names -/
/-! ### Signs -/
theorem sign_l0 {s : Txt} {ws : List Txt} (hs : s.length < 1000000000) (hws : ws.length < 1000) {m0 : Mem} {fr : Fr} {b t : Nat} {v4 : EV} (hb : m0.get b = .cells (ws.map .str) 1 t false) (h0 : fr.get 0 = .str s) (h3 : fr.get 3 = .slice b 0 ws.length (some ws.length)) (h4 : fr.get 4 = v4) (h5 : fr.get 5 = .int .i64 0) (hd : fr.defers = []) :
    ∃ o, exec U (.loop F_r05_sign_l0) fr m0 = some o ∧ (((2 ≤ s.length ∧ s.take 2 ∈ ws) ∧ ∃ fr' m', o = .ret fr' m' ∧ fr'.get 2 = .int .i64 2 ∧ fr'.defers = []) ∨ (¬ (2 ≤ s.length ∧ s.take 2 ∈ ws) ∧ ∃ fr' m', o = .exit 0 fr' m' ∧ fr'.get 0 = .str s ∧ fr'.get 4 = v4 ∧ fr'.defers = [])) := by
  refine loop_w (σ := Nat) (fun i fr m => m.get b = .cells (ws.map .str) 1 t false ∧ i ≤ ws.length ∧ fr.get 0 = .str s ∧ fr.get 3 = .slice b 0 ws.length (some ws.length) ∧ fr.get 4 = v4 ∧ fr.get 5 = .int .i64 (i : Int) ∧ (2 ≤ s.length → s.take 2 ∉ ws.take i) ∧ fr.defers = []) (fun i => ws.length - i) _ ?_ 0 fr m0 ⟨hb, Nat.zero_le _, h0, h3, h4, h5, by simp, hd⟩
  rintro i fr m ⟨hb, hi, h0, h3, h4, h5, hall, hd⟩
  generalize hX : exec U F_r05_sign_l0 fr m = X
  by_cases hlt : i < ws.length
  · have hc : (i : Int) < (ws.length : Int) := by omega
    have hg : ws[i]? = some ws[i] := List.getElem?_eq_getElem hlt
    have hw1 := wrap_succ (i := i) (by omega)
    by_cases h2 : 2 ≤ s.length
    · have hc2 : (2 : Int) ≤ (s.length : Int) := by omega
      have hb2 : bound (some (.int .i64 2)) s.length s.length = some 2 := bound_cast (i := 2) h2
      have hb0 : bound none 0 2 = some 0 := rfl
      simp +contextual -implicitDefEqProofs (maxSteps := 1000000) (maxDischargeDepth := 8) only [F_r05_sign_l0, h0, h3, h4, h5, hd, hc, hc2, hg, hlt, hw1, hb, hb2, hb0, idx_cast, Nat.mul_one, Option.map_none, zz0, zz1, zz2, zz3, zz4, zz5, zz6, zz7, zz8, zz9, argsF, reduceIte, reduceCtorEq, Nat.reduceEqDiff, Nat.reduceBEq, Nat.reduceAdd, Int.reduceLT, Int.reduceLE, Int.reduceEq, Int.reduceToNat, Int.reduceNeg, Nat.reduceLeDiff, Int.reducePow, implies_true, UInt8.reduceToNat, Int.reduceSub, Int.reduceAdd, Nat.reduceLT, Nat.reduceMul, Nat.reduceSub, Nat.reduceBNe] at hX
      subst hX
      refine lw_iF (fun hp => lw_ret (Or.inl ⟨⟨h2, ?_⟩, _, _, rfl, by simp only [get_set', selE_t, selE_f, Nat.reduceBEq, set_defers, fr00_get, fr00_defers, put_some, put_none ], by simp only [hd, get_set', selE_t, selE_f, Nat.reduceBEq, set_defers, fr00_get, fr00_defers, put_some, put_none ]⟩)) (fun hp => lw_norm (i + 1) (by omega) ⟨by simp only [get_bump, hb], hlt, by simp only [h0, get_set', selE_t, selE_f, Nat.reduceBEq, set_defers, fr00_get, fr00_defers, put_some, put_none ], by simp only [h3, get_set', selE_t, selE_f, Nat.reduceBEq, set_defers, fr00_get, fr00_defers, put_some, put_none ], by simp only [h4, get_set', selE_t, selE_f, Nat.reduceBEq, set_defers, fr00_get, fr00_defers, put_some, put_none ], by simp only [get_set', selE_t, selE_f, Nat.reduceBEq, set_defers, fr00_get, fr00_defers, put_some, put_none ], fun _ => ?_, by simp only [hd, get_set', selE_t, selE_f, Nat.reduceBEq, set_defers, fr00_get, fr00_defers, put_some, put_none ]⟩)
      · rw [hp]; exact List.getElem_mem hlt
      · rw [List.take_succ_eq_append_getElem hlt, List.mem_append]
        rintro (q | q)
        · exact hall h2 q
        · exact hp (List.mem_singleton.1 q)
    · have hc2 : ¬ (2 : Int) ≤ (s.length : Int) := by omega
      simp +contextual -implicitDefEqProofs (maxSteps := 1000000) (maxDischargeDepth := 8) only [F_r05_sign_l0, h0, h3, h4, h5, hd, hc, hc2, hg, hlt, hw1, hb, idx_cast, zz0, zz1, zz2, zz3, zz4, zz5, zz6, zz7, zz8, zz9, argsF, reduceIte, reduceCtorEq, Nat.reduceEqDiff, Nat.reduceBEq, Nat.reduceAdd, Int.reduceLT, Int.reduceLE, Int.reduceEq, Int.reduceToNat, Int.reduceNeg, Nat.reduceLeDiff, Int.reducePow, implies_true, UInt8.reduceToNat, Int.reduceSub, Int.reduceAdd, Nat.reduceLT, Nat.reduceMul, Nat.reduceSub, Nat.reduceBNe] at hX
      subst hX
      exact lw_exit (Or.inr ⟨fun q => h2 q.1, _, _, rfl, by simp only [h0, get_set', selE_t, selE_f, Nat.reduceBEq, set_defers, fr00_get, fr00_defers, put_some, put_none ], by simp only [h4, get_set', selE_t, selE_f, Nat.reduceBEq, set_defers, fr00_get, fr00_defers, put_some, put_none ], by simp only [hd, get_set', selE_t, selE_f, Nat.reduceBEq, set_defers, fr00_get, fr00_defers, put_some, put_none ]⟩)
  · have hc : ¬ ((i : Int) < (ws.length : Int)) := by omega
    have : ws.take i = ws := List.take_of_length_le (by omega)
    rw [this] at hall
    simp +contextual -implicitDefEqProofs (maxSteps := 1000000) (maxDischargeDepth := 8) only [F_r05_sign_l0, h0, h3, h4, h5, hd, hc, zz0, zz1, zz2, zz3, zz4, zz5, zz6, zz7, zz8, zz9, argsF, reduceIte, reduceCtorEq, Nat.reduceEqDiff, Nat.reduceBEq, Nat.reduceAdd, Int.reduceLT, Int.reduceLE, Int.reduceEq, Int.reduceToNat, Int.reduceNeg, Nat.reduceLeDiff, Int.reducePow, implies_true, UInt8.reduceToNat, Int.reduceSub, Int.reduceAdd, Nat.reduceLT, Nat.reduceMul, Nat.reduceSub, Nat.reduceBNe] at hX
    subst hX
    exact lw_exit (Or.inr ⟨fun q => hall q.1 q.2, _, _, rfl, by simp only [h0, get_set', selE_t, selE_f, Nat.reduceBEq, set_defers, fr00_get, fr00_defers, put_some, put_none ], by simp only [h4, get_set', selE_t, selE_f, Nat.reduceBEq, set_defers, fr00_get, fr00_defers, put_some, put_none ], by simp only [hd, get_set', selE_t, selE_f, Nat.reduceBEq, set_defers, fr00_get, fr00_defers, put_some, put_none ]⟩)
theorem sign_l1 {s os : Txt} {c : UInt8} (hc0 : s[0]? = some c) (hos : os.length < 1000) {m0 : Mem} {fr : Fr} (h0 : fr.get 0 = .str s) (h4 : fr.get 4 = .str os) (h6 : fr.get 6 = .int .i64 0) (hd : fr.defers = []) :
    ∃ o, exec U (.loop F_r05_sign_l1) fr m0 = some o ∧ ((c ∈ os ∧ ∃ fr' m', o = .ret fr' m' ∧ fr'.get 2 = .int .i64 1 ∧ fr'.defers = []) ∨ (c ∉ os ∧ ∃ fr' m', o = .exit 2 fr' m' ∧ fr'.defers = [])) := by
  refine loop_w (σ := Nat) (fun i fr _ => i ≤ os.length ∧ fr.get 0 = .str s ∧ fr.get 4 = .str os ∧ fr.get 6 = .int .i64 (i : Int) ∧ c ∉ os.take i ∧ fr.defers = []) (fun i => os.length - i) _ ?_ 0 fr m0 ⟨Nat.zero_le _, h0, h4, h6, by simp, hd⟩
  rintro i fr m ⟨hi, h0, h4, h6, hall, hd⟩
  generalize hX : exec U F_r05_sign_l1 fr m = X
  have hs0 : 0 < s.length := (List.getElem?_eq_some_iff.1 hc0).1
  by_cases hlt : i < os.length
  · have hc : (i : Int) < (os.length : Int) := by omega
    have hg : os[i]? = some os[i] := List.getElem?_eq_getElem hlt
    have hw1 := wrap_succ (i := i) (by omega)
    have he : ∀ d : UInt8, ((c.toNat : Int) = (d.toNat : Int)) = (c = d) := fun d => propext ⟨fun h => UInt8.toNat_inj.1 (by omega), fun h => by rw [h]⟩
    simp +contextual -implicitDefEqProofs (maxSteps := 1000000) (maxDischargeDepth := 8) only [F_r05_sign_l1, h0, h4, h6, hd, hc, hc0, hs0, hg, hlt, hw1, he, idx_cast, idx_lit0, zz0, zz1, zz2, zz3, zz4, zz5, zz6, zz7, zz8, zz9, argsF, reduceIte, reduceCtorEq, Nat.reduceEqDiff, Nat.reduceBEq, Nat.reduceAdd, Int.reduceLT, Int.reduceLE, Int.reduceEq, Int.reduceToNat, Int.reduceNeg, Nat.reduceLeDiff, Int.reducePow, implies_true, UInt8.reduceToNat, Int.reduceSub, Int.reduceAdd, Nat.reduceLT, Nat.reduceMul, Nat.reduceSub, Nat.reduceBNe] at hX
    subst hX
    refine lw_iF (fun hp => lw_ret (Or.inl ⟨?_, _, _, rfl, by simp only [get_set', selE_t, selE_f, Nat.reduceBEq, set_defers, fr00_get, fr00_defers, put_some, put_none ], by simp only [hd, get_set', selE_t, selE_f, Nat.reduceBEq, set_defers, fr00_get, fr00_defers, put_some, put_none ]⟩)) (fun hp => lw_norm (i + 1) (by omega) ⟨hlt, by simp only [h0, get_set', selE_t, selE_f, Nat.reduceBEq, set_defers, fr00_get, fr00_defers, put_some, put_none ], by simp only [h4, get_set', selE_t, selE_f, Nat.reduceBEq, set_defers, fr00_get, fr00_defers, put_some, put_none ], by simp only [get_set', selE_t, selE_f, Nat.reduceBEq, set_defers, fr00_get, fr00_defers, put_some, put_none ], ?_, by simp only [hd, get_set', selE_t, selE_f, Nat.reduceBEq, set_defers, fr00_get, fr00_defers, put_some, put_none ]⟩)
    · rw [hp]; exact List.getElem_mem hlt
    · rw [List.take_succ_eq_append_getElem hlt, List.mem_append]
      rintro (q | q)
      · exact hall q
      · exact hp (List.mem_singleton.1 q)
  · have hc : ¬ ((i : Int) < (os.length : Int)) := by omega
    have : os.take i = os := List.take_of_length_le (by omega)
    rw [this] at hall
    simp +contextual -implicitDefEqProofs (maxSteps := 1000000) (maxDischargeDepth := 8) only [F_r05_sign_l1, h0, h4, h6, hd, hc, zz0, zz1, zz2, zz3, zz4, zz5, zz6, zz7, zz8, zz9, argsF, reduceIte, reduceCtorEq, Nat.reduceEqDiff, Nat.reduceBEq, Nat.reduceAdd, Int.reduceLT, Int.reduceLE, Int.reduceEq, Int.reduceToNat, Int.reduceNeg, Nat.reduceLeDiff, Int.reducePow, implies_true, UInt8.reduceToNat, Int.reduceSub, Int.reduceAdd, Nat.reduceLT, Nat.reduceMul, Nat.reduceSub, Nat.reduceBNe] at hX
    subst hX
    exact lw_exit (Or.inr ⟨hall, _, _, rfl, by simp only [hd, get_set', selE_t, selE_f, Nat.reduceBEq, set_defers, fr00_get, fr00_defers, put_some, put_none ]⟩)
theorem sign_eq {s : Txt} (hs : s.length < 1000000000) (hs0 : s ≠ []) : pureR B K n_r05_sign [.str s] = some (.int .i64 (signF s : Int)) := by
  obtain ⟨c, s', rfl⟩ : ∃ c s', s = c :: s' := by cases s with | nil => exact absurd rfl hs0 | cons c s' => exact ⟨c, s', rfl⟩
  have hc0 : (c :: s')[0]? = some c := rfl
  generalize hS : c :: s' = s at *
  rw [pure_at (by simp [F_r05_sign])]
  generalize hL : exec (UT B K) (ICode.loop F_r05_sign_l0) = L
  generalize hL1 : exec (UT B K) (ICode.loop F_r05_sign_l1) = L1
  have hf : fillIn (copies 9 [.str []]) [(0, 1, .str [124, 124]), (1, 1, .str [38, 38]), (2, 1, .str [61, 61]), (3, 1, .str [33, 61]), (4, 1, .str [60, 61]), (5, 1, .str [62, 61]), (6, 1, .str [43, 37]), (7, 1, .str [45, 37]), (8, 1, .str [42, 37])] = some (twoL.map .str) := by kernel_rfl
  simp +contextual -implicitDefEqProofs (maxSteps := 1000000) (maxDischargeDepth := 8) only [F_r05_sign, evOp_bsliceN, bsF_some, hf, Nat.mul_one, zz0, zz1, zz2, zz3, zz4, zz5, zz6, zz7, zz8, zz9, argsF, reduceIte, reduceCtorEq, Nat.reduceEqDiff, Nat.reduceBEq, Nat.reduceAdd, Int.reduceLT, Int.reduceLE, Int.reduceEq, Int.reduceToNat, Int.reduceNeg, Nat.reduceLeDiff, Int.reducePow, implies_true, UInt8.reduceToNat, Int.reduceSub, Int.reduceAdd, Nat.reduceLT, Nat.reduceMul, Nat.reduceSub, Nat.reduceBNe]
  subst hL
  generalize hX : exec _ (.loop F_r05_sign_l0) _ _ = X
  obtain ⟨o, rfl, h⟩ := looped hX (sign_l0 (s := s) (ws := twoL) hs (by decide) (b := nb mem00.next 0) (by simp +contextual -implicitDefEqProofs (maxSteps := 1000000) (maxDischargeDepth := 8) only [zz0, zz1, zz2, zz3, zz4, zz5, argsF, reduceIte, reduceCtorEq, Nat.reduceEqDiff, Nat.reduceBEq, Nat.reduceAdd, Int.reduceLT, Int.reduceLE, Int.reduceEq, Int.reduceToNat, Int.reduceNeg, Nat.reduceLeDiff, Int.reducePow, implies_true, UInt8.reduceToNat, Int.reduceSub, Int.reduceAdd, Nat.reduceLT, Nat.reduceMul, Nat.reduceSub]; rfl) (by simp only [get_set', selE_t, selE_f, Nat.reduceBEq, set_defers, fr00_get, fr00_defers, put_some, put_none ]) (by simp only [get_set', selE_t, selE_f, Nat.reduceBEq, set_defers, fr00_get, fr00_defers, put_some, put_none ]; rfl) rfl (by simp only [get_set', selE_t, selE_f, Nat.reduceBEq, set_defers, fr00_get, fr00_defers, put_some, put_none ]) (by simp only [get_set', selE_t, selE_f, Nat.reduceBEq, set_defers, fr00_get, fr00_defers, put_some, put_none ]))
  rcases h with ⟨h, fr', m', rfl, h2, hd⟩ | ⟨h, fr', m', rfl, h0, h4, hd⟩
  · have : signF s = 2 := by unfold signF; rw [if_pos h]
    simp +contextual -implicitDefEqProofs (maxSteps := 1000000) (maxDischargeDepth := 8) only [h2, hd, this, zz0, zz1, zz2, zz3, zz4, zz5, zz6, zz7, zz8, zz9, argsF, reduceIte, reduceCtorEq, Nat.reduceEqDiff, Nat.reduceBEq, Nat.reduceAdd, Int.reduceLT, Int.reduceLE, Int.reduceEq, Int.reduceToNat, Int.reduceNeg, Nat.reduceLeDiff, Int.reducePow, implies_true, UInt8.reduceToNat, Int.reduceSub, Int.reduceAdd, Nat.reduceLT, Nat.reduceMul, Nat.reduceSub, Nat.reduceBNe]
  · simp only [get_set', selE_t, selE_f, Nat.reduceBEq, set_defers, fr00_get, fr00_defers, put_some, put_none ] at h4
    simp +contextual -implicitDefEqProofs (maxSteps := 1000000) (maxDischargeDepth := 8) only [h0, h4, hd, zz0, zz1, zz2, zz3, zz4, zz5, zz6, zz7, zz8, zz9, argsF, reduceIte, reduceCtorEq, Nat.reduceEqDiff, Nat.reduceBEq, Nat.reduceAdd, Int.reduceLT, Int.reduceLE, Int.reduceEq, Int.reduceToNat, Int.reduceNeg, Nat.reduceLeDiff, Int.reducePow, implies_true, UInt8.reduceToNat, Int.reduceSub, Int.reduceAdd, Nat.reduceLT, Nat.reduceMul, Nat.reduceSub, Nat.reduceBNe]
    subst hL1
    generalize hX : exec _ (.loop F_r05_sign_l1) _ _ = X
    obtain ⟨o, rfl, h1⟩ := looped hX (sign_l1 (s := s) (os := oneL) hc0 (by decide) (by simp only [h0, get_set', selE_t, selE_f, Nat.reduceBEq, set_defers, fr00_get, fr00_defers, put_some, put_none ]) (by simp only [h4, get_set', selE_t, selE_f, Nat.reduceBEq, set_defers, fr00_get, fr00_defers, put_some, put_none ]; rfl) (by simp only [get_set', selE_t, selE_f, Nat.reduceBEq, set_defers, fr00_get, fr00_defers, put_some, put_none ]) (by simp only [hd, get_set', selE_t, selE_f, Nat.reduceBEq, set_defers, fr00_get, fr00_defers, put_some, put_none ]))
    rcases h1 with ⟨h1, fr', m', rfl, h2, hd⟩ | ⟨h1, fr', m', rfl, hd⟩
    · have : signF s = 1 := by unfold signF; rw [if_neg h, if_pos ⟨c, h1, hc0⟩]
      simp +contextual -implicitDefEqProofs (maxSteps := 1000000) (maxDischargeDepth := 8) only [h2, hd, this, zz0, zz1, zz2, zz3, zz4, zz5, zz6, zz7, zz8, zz9, argsF, reduceIte, reduceCtorEq, Nat.reduceEqDiff, Nat.reduceBEq, Nat.reduceAdd, Int.reduceLT, Int.reduceLE, Int.reduceEq, Int.reduceToNat, Int.reduceNeg, Nat.reduceLeDiff, Int.reducePow, implies_true, UInt8.reduceToNat, Int.reduceSub, Int.reduceAdd, Nat.reduceLT, Nat.reduceMul, Nat.reduceSub, Nat.reduceBNe]
    · have : signF s = 0 := by
        unfold signF; rw [if_neg h, if_neg]
        rintro ⟨d, hd1, hd2⟩
        rw [hc0] at hd2; cases hd2; exact h1 hd1
      simp +contextual -implicitDefEqProofs (maxSteps := 1000000) (maxDischargeDepth := 8) only [hd, this, zz0, zz1, zz2, zz3, zz4, zz5, zz6, zz7, zz8, zz9, argsF, reduceIte, reduceCtorEq, Nat.reduceEqDiff, Nat.reduceBEq, Nat.reduceAdd, Int.reduceLT, Int.reduceLE, Int.reduceEq, Int.reduceToNat, Int.reduceNeg, Nat.reduceLeDiff, Int.reducePow, implies_true, UInt8.reduceToNat, Int.reduceSub, Int.reduceAdd, Nat.reduceLT, Nat.reduceMul, Nat.reduceSub, Nat.reduceBNe]
end Go.Proofs.Ytjgbofonigpjaaa.Ev
end
section
namespace Go.Proofs.Ytjgbofonigpjaaa.Ev
open Go
set_option linter.unusedSimpArgs false
set_option maxRecDepth 10000
set_option maxHeartbeats 4000000
theorem lead_le (p : Int → Prop) [DecidablePred p] : ∀ s : Txt, lead p s ≤ s.length
  | [] => Nat.le_refl _
  | c :: s => by
    have := lead_le p s
    unfold lead; split <;> simp only [List.length_cons] <;> omega
theorem lead_take (p : Int → Prop) [DecidablePred p] : ∀ s : Txt, ∀ c ∈ s.take (lead p s), p (cI c)
  | [], c, h => by simp at h
  | d :: s, c, h => by
    unfold lead at h
    split at h
    · rename_i hd
      rw [Nat.add_comm, List.take_succ_cons, List.mem_cons] at h
      rcases h with rfl | h
      · exact hd
      · exact lead_take p s c h
    · simp at h
theorem wordF_le : ∀ s : Txt, wordF s ≤ s.length
  | [] => Nat.le_refl _
  | c :: s => by
    simp only [wordF]
    have := lead_le (fun n => LetterP n ∨ DigitP n) s
    split <;> simp only [List.length_cons] <;> omega
theorem signF_le {s : Txt} (h : 0 < s.length) : signF s ≤ s.length := by
  unfold signF
  split
  · rename_i q; exact q.1
  · split <;> omega
theorem one_l0 {s : Txt} (hs : s.length < 1000000000) {v1 v4 : EV} {m0 : Mem} {fr : Fr} (h0 : fr.get 0 = .str s) (h1 : fr.get 1 = v1) (h4 : fr.get 4 = v4) (h6 : fr.get 6 = .int .i64 0) (hd : fr.defers = []) :
    ∃ o, exec U (.loop F_r05_one_l0) fr m0 = some o ∧ ∃ fr', o = .exit 0 fr' m0 ∧ fr'.get 0 = .str s ∧ fr'.get 1 = v1 ∧ fr'.get 4 = v4 ∧ fr'.get 6 = .int .i64 (lead DigitP s : Int) ∧ fr'.defers = [] := by
  refine loop_w (σ := Nat) (fun i fr m => m = m0 ∧ i ≤ s.length ∧ fr.get 0 = .str s ∧ fr.get 1 = v1 ∧ fr.get 4 = v4 ∧ fr.get 6 = .int .i64 (i : Int) ∧ lead DigitP s = i + lead DigitP (s.drop i) ∧ fr.defers = []) (fun i => s.length - i) _ ?_ 0 fr m0 ⟨rfl, Nat.zero_le _, h0, h1, h4, h6, by simp, hd⟩
  rintro i fr m ⟨rfl, hi, h0, h1, h4, h6, hr, hd⟩
  generalize hX : exec U F_r05_one_l0 fr m = X
  by_cases hlt : i < s.length
  · have hc : (i : Int) < (s.length : Int) := by omega
    have hg : s[i]? = some s[i] := List.getElem?_eq_getElem hlt
    have hw1 := wrap_succ (i := i) (by omega)
    rw [drop_cons hlt, lead] at hr
    generalize s[i] = c at hg hr
    simp +contextual -implicitDefEqProofs (maxSteps := 1000000) (maxDischargeDepth := 8) only [F_r05_one_l0, h0, h1, h4, h6, hd, hc, hg, hlt, hw1, idx_cast, digit_eq, zz0, zz1, zz2, zz3, zz4, zz5, zz6, zz7, zz8, zz9, argsF, reduceIte, reduceCtorEq, Nat.reduceEqDiff, Nat.reduceBEq, Nat.reduceAdd, Int.reduceLT, Int.reduceLE, Int.reduceEq, Int.reduceToNat, Int.reduceNeg, Nat.reduceLeDiff, Int.reducePow, implies_true, UInt8.reduceToNat, Int.reduceSub, Int.reduceAdd, Nat.reduceLT, Nat.reduceMul, Nat.reduceSub, Nat.reduceBNe] at hX
    subst hX
    refine lw_iF (fun hp => lw_norm (i + 1) (by omega) ⟨rfl, hlt, by simp only [h0, get_set', selE_t, selE_f, Nat.reduceBEq, set_defers, fr00_get, fr00_defers, put_some, put_none ], by simp only [h1, get_set', selE_t, selE_f, Nat.reduceBEq, set_defers, fr00_get, fr00_defers, put_some, put_none ], by simp only [h4, get_set', selE_t, selE_f, Nat.reduceBEq, set_defers, fr00_get, fr00_defers, put_some, put_none ], by simp only [get_set', selE_t, selE_f, Nat.reduceBEq, set_defers, fr00_get, fr00_defers, put_some, put_none ], ?_, by simp only [hd, get_set', selE_t, selE_f, Nat.reduceBEq, set_defers, fr00_get, fr00_defers, put_some, put_none ]⟩) (fun hp => lw_exit ⟨_, rfl, by simp only [h0, get_set', selE_t, selE_f, Nat.reduceBEq, set_defers, fr00_get, fr00_defers, put_some, put_none ], by simp only [h1, get_set', selE_t, selE_f, Nat.reduceBEq, set_defers, fr00_get, fr00_defers, put_some, put_none ], by simp only [h4, get_set', selE_t, selE_f, Nat.reduceBEq, set_defers, fr00_get, fr00_defers, put_some, put_none ], ?_, by simp only [hd, get_set', selE_t, selE_f, Nat.reduceBEq, set_defers, fr00_get, fr00_defers, put_some, put_none ]⟩)
    · rw [if_pos hp] at hr; omega
    · rw [if_neg hp] at hr; simp only [h6, hr, Nat.add_zero, get_set', selE_t, selE_f, Nat.reduceBEq, set_defers, fr00_get, fr00_defers, put_some, put_none ]
  · have hc : ¬ ((i : Int) < (s.length : Int)) := by omega
    simp +contextual -implicitDefEqProofs (maxSteps := 1000000) (maxDischargeDepth := 8) only [F_r05_one_l0, h0, h1, h4, h6, hd, hc, zz0, zz1, zz2, zz3, zz4, zz5, zz6, zz7, zz8, zz9, argsF, reduceIte, reduceCtorEq, Nat.reduceEqDiff, Nat.reduceBEq, Nat.reduceAdd, Int.reduceLT, Int.reduceLE, Int.reduceEq, Int.reduceToNat, Int.reduceNeg, Nat.reduceLeDiff, Int.reducePow, implies_true, UInt8.reduceToNat, Int.reduceSub, Int.reduceAdd, Nat.reduceLT, Nat.reduceMul, Nat.reduceSub, Nat.reduceBNe] at hX
    subst hX
    obtain rfl : i = s.length := by omega
    rw [List.drop_length] at hr
    simp only [lead, Nat.add_zero] at hr
    exact lw_exit ⟨_, rfl, by simp only [h0, get_set', selE_t, selE_f, Nat.reduceBEq, set_defers, fr00_get, fr00_defers, put_some, put_none ], by simp only [h1, get_set', selE_t, selE_f, Nat.reduceBEq, set_defers, fr00_get, fr00_defers, put_some, put_none ], by simp only [h4, get_set', selE_t, selE_f, Nat.reduceBEq, set_defers, fr00_get, fr00_defers, put_some, put_none ], by simp only [h6, hr, get_set', selE_t, selE_f, Nat.reduceBEq, set_defers, fr00_get, fr00_defers, put_some, put_none ], by simp only [hd, get_set', selE_t, selE_f, Nat.reduceBEq, set_defers, fr00_get, fr00_defers, put_some, put_none ]⟩
theorem one_l1 {s : Txt} (hs : s.length < 1000000000) {v1 v4 : EV} {m0 : Mem} {fr : Fr} (h0 : fr.get 0 = .str s) (h1 : fr.get 1 = v1) (h4 : fr.get 4 = v4) (h6 : fr.get 6 = .int .i64 0) (hd : fr.defers = []) :
    ∃ o, exec U (.loop F_r05_one_l1) fr m0 = some o ∧ ∃ fr', o = .exit 2 fr' m0 ∧ fr'.get 0 = .str s ∧ fr'.get 1 = v1 ∧ fr'.get 4 = v4 ∧ fr'.get 6 = .int .i64 (wordF s : Int) ∧ fr'.defers = [] := by
  refine loop_w (σ := Nat) (fun i fr m => m = m0 ∧ i ≤ s.length ∧ fr.get 0 = .str s ∧ fr.get 1 = v1 ∧ fr.get 4 = v4 ∧ fr.get 6 = .int .i64 (i : Int) ∧ (i = 0 ∨ wordF s = i + lead (fun n => LetterP n ∨ DigitP n) (s.drop i)) ∧ fr.defers = []) (fun i => s.length - i) _ ?_ 0 fr m0 ⟨rfl, Nat.zero_le _, h0, h1, h4, h6, .inl rfl, hd⟩
  rintro i fr m ⟨rfl, hi, h0, h1, h4, h6, hr, hd⟩
  generalize hX : exec U F_r05_one_l1 fr m = X
  by_cases hlt : i < s.length
  · have hc : (i : Int) < (s.length : Int) := by omega
    have hg : s[i]? = some s[i] := List.getElem?_eq_getElem hlt
    have hw1 := wrap_succ (i := i) (by omega)
    have hi0 : ((0 : Int) < (i : Int)) = (i ≠ 0) := propext (by omega)
    have hr' : (i = 0 ∧ wordF s = if LetterP (cI s[i]) then 1 + lead (fun n => LetterP n ∨ DigitP n) (s.drop (i + 1)) else 0) ∨ (i ≠ 0 ∧ wordF s = i + if LetterP (cI s[i]) ∨ DigitP (cI s[i]) then 1 + lead (fun n => LetterP n ∨ DigitP n) (s.drop (i + 1)) else 0) := by
      by_cases h : i = 0
      · subst h
        refine .inl ⟨rfl, ?_⟩
        have := drop_cons hlt
        rw [List.drop_zero] at this
        conv => lhs; rw [this, wordF]
      · refine .inr ⟨h, ?_⟩
        rcases hr with hr | hr
        · exact absurd hr h
        · rw [drop_cons hlt, lead] at hr; exact hr
    generalize s[i] = c at hg hr'
    simp +contextual -implicitDefEqProofs (maxSteps := 1000000) (maxDischargeDepth := 8) only [F_r05_one_l1, h0, h1, h4, h6, hd, hc, hg, hlt, hw1, hi0, idx_cast, digit_eq, letter_eq, zz0, zz1, zz2, zz3, zz4, zz5, zz6, zz7, zz8, zz9, argsF, reduceIte, reduceCtorEq, Nat.reduceEqDiff, Nat.reduceBEq, Nat.reduceAdd, Int.reduceLT, Int.reduceLE, Int.reduceEq, Int.reduceToNat, Int.reduceNeg, Nat.reduceLeDiff, Int.reducePow, implies_true, UInt8.reduceToNat, Int.reduceSub, Int.reduceAdd, Nat.reduceLT, Nat.reduceMul, Nat.reduceSub, Nat.reduceBNe] at hX
    subst hX
    refine lw_iF (fun hp => lw_norm (i + 1) (by omega) ⟨rfl, hlt, by simp only [h0, get_set', selE_t, selE_f, Nat.reduceBEq, set_defers, fr00_get, fr00_defers, put_some, put_none ], by simp only [h1, get_set', selE_t, selE_f, Nat.reduceBEq, set_defers, fr00_get, fr00_defers, put_some, put_none ], by simp only [h4, get_set', selE_t, selE_f, Nat.reduceBEq, set_defers, fr00_get, fr00_defers, put_some, put_none ], by simp only [get_set', selE_t, selE_f, Nat.reduceBEq, set_defers, fr00_get, fr00_defers, put_some, put_none ], .inr ?_, by simp only [hd, get_set', selE_t, selE_f, Nat.reduceBEq, set_defers, fr00_get, fr00_defers, put_some, put_none ]⟩) (fun hp => lw_exit ⟨_, rfl, by simp only [h0, get_set', selE_t, selE_f, Nat.reduceBEq, set_defers, fr00_get, fr00_defers, put_some, put_none ], by simp only [h1, get_set', selE_t, selE_f, Nat.reduceBEq, set_defers, fr00_get, fr00_defers, put_some, put_none ], by simp only [h4, get_set', selE_t, selE_f, Nat.reduceBEq, set_defers, fr00_get, fr00_defers, put_some, put_none ], ?_, by simp only [hd, get_set', selE_t, selE_f, Nat.reduceBEq, set_defers, fr00_get, fr00_defers, put_some, put_none ]⟩)
    · rcases hr' with ⟨q, hr'⟩ | ⟨q, hr'⟩
      · rw [if_pos (by rcases hp with h | h; exact h; exact absurd q h.1)] at hr'; omega
      · rw [if_pos (by rcases hp with h | h; exact .inl h; exact .inr h.2)] at hr'; omega
    · rcases hr' with ⟨q, hr'⟩ | ⟨q, hr'⟩
      · rw [if_neg (fun h => hp (.inl h))] at hr'; simp only [h6, hr', q, get_set', selE_t, selE_f, Nat.reduceBEq, set_defers, fr00_get, fr00_defers, put_some, put_none ]
      · rw [if_neg (fun h => hp (h.imp id fun h => ⟨q, h⟩)), Nat.add_zero] at hr'; simp only [h6, hr', get_set', selE_t, selE_f, Nat.reduceBEq, set_defers, fr00_get, fr00_defers, put_some, put_none ]
  · have hc : ¬ ((i : Int) < (s.length : Int)) := by omega
    simp +contextual -implicitDefEqProofs (maxSteps := 1000000) (maxDischargeDepth := 8) only [F_r05_one_l1, h0, h1, h4, h6, hd, hc, zz0, zz1, zz2, zz3, zz4, zz5, zz6, zz7, zz8, zz9, argsF, reduceIte, reduceCtorEq, Nat.reduceEqDiff, Nat.reduceBEq, Nat.reduceAdd, Int.reduceLT, Int.reduceLE, Int.reduceEq, Int.reduceToNat, Int.reduceNeg, Nat.reduceLeDiff, Int.reducePow, implies_true, UInt8.reduceToNat, Int.reduceSub, Int.reduceAdd, Nat.reduceLT, Nat.reduceMul, Nat.reduceSub, Nat.reduceBNe] at hX
    subst hX
    obtain rfl : i = s.length := by omega
    have hw : wordF s = s.length := by
      rcases hr with hr | hr
      · have := wordF_le s; omega
      · rw [List.drop_length] at hr; simpa [lead] using hr
    exact lw_exit ⟨_, rfl, by simp only [h0, get_set', selE_t, selE_f, Nat.reduceBEq, set_defers, fr00_get, fr00_defers, put_some, put_none ], by simp only [h1, get_set', selE_t, selE_f, Nat.reduceBEq, set_defers, fr00_get, fr00_defers, put_some, put_none ], by simp only [h4, get_set', selE_t, selE_f, Nat.reduceBEq, set_defers, fr00_get, fr00_defers, put_some, put_none ], by simp only [h6, hw, get_set', selE_t, selE_f, Nat.reduceBEq, set_defers, fr00_get, fr00_defers, put_some, put_none ], by simp only [hd, get_set', selE_t, selE_f, Nat.reduceBEq, set_defers, fr00_get, fr00_defers, put_some, put_none ]⟩
def Tok.cells (t : Tok) : List EV := [.int .i64 (t.kind : Int), .str t.text, .int .i64 (t.n : Int), .int .i64 (t.pos : Int)]
def oneV : Res Tok → EV
  | .ok t => .tuple [.agg t.cells, .int .i64 0]
  | .bad e _ => .tuple [.agg [.int .i64 0, .str [], .int .i64 0, .int .i64 0], .int .i64 (e : Int)]
theorem oneF_eq {s : Txt} {p : Nat} (hpos : 0 < s.length) : oneF s p = if DigitP (cI s[0]) then numT (s.take (lead DigitP s)) p else (if 0 < wordF s ∧ s.take (wordF s) ∈ wordsL then .ok ⟨3, s.take (wordF s), 0, p⟩
    else if 32 < wordF s then .bad 3 p
    else if 0 < wordF s then .ok ⟨1, s.take (wordF s), 0, p⟩
    else if signF s = 0 then .bad 6 p
    else .ok ⟨4, s.take (signF s), 0, p⟩) := by
  have hc0 : s[0]? = some s[0] := List.getElem?_eq_getElem hpos
  unfold oneF
  simp only [hc0, Option.mem_def, Option.some.injEq, exists_eq_left']
theorem one_eq {s : Txt} {p : Nat} (hs : s.length < 1000000000) (hs0 : s ≠ []) : pureR B K n_r05_one [.str s, .int .i64 (p : Int)] = some (oneV (oneF s p)) := by
  have hpos : 0 < s.length := List.length_pos_iff.2 hs0
  have hc0 : s[0]? = some s[0] := List.getElem?_eq_getElem hpos
  have hle := lead_le DigitP s
  have hnum := number_eq (s := s.take (lead DigitP s)) (by rw [List.length_take]; omega) (lead_take DigitP s)
  have hsg := sign_eq hs hs0
  have hone := oneF_eq (p := p) hpos
  rw [hone]
  generalize s[0] = c at hc0
  have hbd : bound (some (.int .i64 (lead DigitP s : Int))) s.length s.length = some (lead DigitP s) := bound_cast hle
  have hbw : bound (some (.int .i64 (wordF s : Int))) s.length s.length = some (wordF s) := bound_cast (wordF_le s)
  have hbs : bound (some (.int .i64 (signF s : Int))) s.length s.length = some (signF s) := bound_cast (signF_le hpos)
  have hb0 : ∀ n, bound none 0 n = some 0 := fun n => rfl
  rw [pure_at (by simp [F_r05_one])]
  generalize hL : exec (UT B K) (ICode.loop F_r05_one_l0) = L
  generalize hL1 : exec (UT B K) (ICode.loop F_r05_one_l1) = L1
  by_cases hdg : DigitP (cI c)
  · have hdg' : DigitP (c.toNat : Int) := hdg
    simp +contextual -implicitDefEqProofs (maxSteps := 1000000) (maxDischargeDepth := 8) only [F_r05_one, hc0, hpos, hdg', idx_lit0, digit_eq, zz0, zz1, zz2, zz3, zz4, zz5, zz6, zz7, zz8, zz9, argsF, reduceIte, reduceCtorEq, Nat.reduceEqDiff, Nat.reduceBEq, Nat.reduceAdd, Int.reduceLT, Int.reduceLE, Int.reduceEq, Int.reduceToNat, Int.reduceNeg, Nat.reduceLeDiff, Int.reducePow, implies_true, UInt8.reduceToNat, Int.reduceSub, Int.reduceAdd, Nat.reduceLT, Nat.reduceMul, Nat.reduceSub, Nat.reduceBNe]
    subst hL
    generalize hX : exec _ (.loop F_r05_one_l0) _ _ = X
    obtain ⟨o, rfl, fr', rfl, h0, h1, h4, h6, hd⟩ := looped hX (one_l0 (s := s) hs (by simp only [get_set', selE_t, selE_f, Nat.reduceBEq, set_defers, fr00_get, fr00_defers, put_some, put_none ]) rfl rfl (by simp only [get_set', selE_t, selE_f, Nat.reduceBEq, set_defers, fr00_get, fr00_defers, put_some, put_none ]) (by simp only [get_set', selE_t, selE_f, Nat.reduceBEq, set_defers, fr00_get, fr00_defers, put_some, put_none ]))
    simp only [get_set', selE_t, selE_f, Nat.reduceBEq, set_defers, fr00_get, fr00_defers, put_some, put_none ] at h1 h4
    cases hn : numF 0 (s.take (lead DigitP s)) with
    | none =>
      simp +contextual -implicitDefEqProofs (maxSteps := 1000000) (maxDischargeDepth := 8) only [h0, h1, h4, h6, hd, hbd, hb0, hnum, hn, numV, hdg, numT, oneV, Option.map_none, zz0, zz1, zz2, zz3, zz4, zz5, zz6, zz7, zz8, zz9, argsF, reduceIte, reduceCtorEq, Nat.reduceEqDiff, Nat.reduceBEq, Nat.reduceAdd, Int.reduceLT, Int.reduceLE, Int.reduceEq, Int.reduceToNat, Int.reduceNeg, Nat.reduceLeDiff, Int.reducePow, implies_true, UInt8.reduceToNat, Int.reduceSub, Int.reduceAdd, Nat.reduceLT, Nat.reduceMul, Nat.reduceSub, Nat.reduceBNe]
    | some n =>
      simp +contextual -implicitDefEqProofs (maxSteps := 1000000) (maxDischargeDepth := 8) only [h0, h1, h4, h6, hd, hbd, hb0, hnum, hn, numV, hdg, numT, oneV, Tok.cells, Option.map_none, zz0, zz1, zz2, zz3, zz4, zz5, zz6, zz7, zz8, zz9, argsF, reduceIte, reduceCtorEq, Nat.reduceEqDiff, Nat.reduceBEq, Nat.reduceAdd, Int.reduceLT, Int.reduceLE, Int.reduceEq, Int.reduceToNat, Int.reduceNeg, Nat.reduceLeDiff, Int.reducePow, implies_true, UInt8.reduceToNat, Int.reduceSub, Int.reduceAdd, Nat.reduceLT, Nat.reduceMul, Nat.reduceSub, Nat.reduceBNe]
  · have hdg' : ¬ DigitP (c.toNat : Int) := hdg
    have p0 : ((0 : Int) < (wordF s : Int)) = (0 < wordF s) := propext (by omega)
    have p32 : ((32 : Int) < (wordF s : Int)) = (32 < wordF s) := propext (by omega)
    have ps : ((signF s : Int) = 0) = (signF s = 0) := propext (by omega)
    simp +contextual -implicitDefEqProofs (maxSteps := 1000000) (maxDischargeDepth := 8) only [F_r05_one, hc0, hpos, hdg', idx_lit0, digit_eq, zz0, zz1, zz2, zz3, zz4, zz5, zz6, zz7, zz8, zz9, argsF, reduceIte, reduceCtorEq, Nat.reduceEqDiff, Nat.reduceBEq, Nat.reduceAdd, Int.reduceLT, Int.reduceLE, Int.reduceEq, Int.reduceToNat, Int.reduceNeg, Nat.reduceLeDiff, Int.reducePow, implies_true, UInt8.reduceToNat, Int.reduceSub, Int.reduceAdd, Nat.reduceLT, Nat.reduceMul, Nat.reduceSub, Nat.reduceBNe]
    subst hL1
    generalize hX : exec _ (.loop F_r05_one_l1) _ _ = X
    obtain ⟨o, rfl, fr', rfl, h0, h1, h4, h6, hd⟩ := looped hX (one_l1 (s := s) hs (by simp only [get_set', selE_t, selE_f, Nat.reduceBEq, set_defers, fr00_get, fr00_defers, put_some, put_none ]) rfl rfl (by simp only [get_set', selE_t, selE_f, Nat.reduceBEq, set_defers, fr00_get, fr00_defers, put_some, put_none ]) (by simp only [get_set', selE_t, selE_f, Nat.reduceBEq, set_defers, fr00_get, fr00_defers, put_some, put_none ]))
    simp only [get_set', selE_t, selE_f, Nat.reduceBEq, set_defers, fr00_get, fr00_defers, put_some, put_none ] at h1 h4
    simp +contextual -implicitDefEqProofs (maxSteps := 1000000) (maxDischargeDepth := 8) only [h0, h1, h4, h6, hd, hbw, hbs, hb0, hsg, p0, p32, ps, hdg, word_eq, Option.map_none, zz0, zz1, zz2, zz3, zz4, zz5, zz6, zz7, zz8, zz9, argsF, reduceIte, reduceCtorEq, Nat.reduceEqDiff, Nat.reduceBEq, Nat.reduceAdd, Int.reduceLT, Int.reduceLE, Int.reduceEq, Int.reduceToNat, Int.reduceNeg, Nat.reduceLeDiff, Int.reducePow, implies_true, UInt8.reduceToNat, Int.reduceSub, Int.reduceAdd, Nat.reduceLT, Nat.reduceMul, Nat.reduceSub, Nat.reduceBNe]
    by_cases q1 : 0 < wordF s ∧ s.take (wordF s) ∈ wordsL
    · rw [ifO_pos q1, if_pos q1]; rfl
    · rw [ifO_neg q1, if_neg q1]
      by_cases q2 : 32 < wordF s
      · rw [ifO_pos q2, if_pos q2]; rfl
      · rw [ifO_neg q2, if_neg q2]
        by_cases q3 : 0 < wordF s
        · rw [ifO_pos q3, if_pos q3]; rfl
        · rw [ifO_neg q3, if_neg q3]
          by_cases q4 : signF s = 0
          · rw [ifO_pos q4, if_pos q4]; rfl
          · rw [ifO_neg q4, if_neg q4]; rfl
end Go.Proofs.Ytjgbofonigpjaaa.Ev
end
section
namespace Go.Proofs.Ytjgbofonigpjaaa.Ev
open Go
set_option linter.unusedSimpArgs false
set_option maxRecDepth 10000
set_option maxHeartbeats 4000000
def toks (l : List Tok) : List (List EV) := l.map Tok.cells
theorem toks_snoc (l : List Tok) (t : Tok) : (toks (l ++ [t])).flatten = (toks l).flatten ++ t.cells := by simp [toks]
theorem toks_len (l : List Tok) : ∀ el ∈ toks l, el.length = 4 := by
  intro el h; obtain ⟨t, _, rfl⟩ := List.mem_map.1 h; rfl
theorem toks_plain (l : List Tok) : ∀ el ∈ toks l, plains el = true := by
  intro el h; obtain ⟨t, _, rfl⟩ := List.mem_map.1 h; rfl
theorem skipF_le : ∀ (s : Txt) (r : Bool), skipF r s ≤ s.length
  | [], _ => Nat.le_refl _
  | c :: s, r => by
    have := skipF_le s (if cI c = 10 then false else if cI c = 35 then true else r)
    simp only [skipF]
    generalize (if cI c = 10 then false else if cI c = 35 then true else r) = r1 at this ⊢
    simp only [List.length_cons]
    split <;> omega
theorem oneF_len {s : Txt} {p : Nat} {t : Tok} (hs : 0 < s.length) (h : oneF s p = .ok t) : 0 < t.text.length ∧ t.text.length ≤ s.length ∧ t.pos = p ∧ t.text = s.take t.text.length := by
  have hc0 : s[0]? = some s[0] := List.getElem?_eq_getElem hs
  have hl := lead_le DigitP s
  have hw := wordF_le s
  have hg := signF_le hs
  unfold oneF at h
  simp only [hc0, Option.mem_def, Option.some.injEq, exists_eq_left'] at h
  have tk : ∀ k, k ≤ s.length → (s.take k).length = k := fun k hk => by rw [List.length_take]; omega
  split at h
  · rename_i hd
    have h1 : 0 < lead DigitP s := by
      have := drop_cons hs
      rw [List.drop_zero] at this
      rw [this, lead, if_pos hd]; omega
    unfold numT at h
    split at h
    · cases h; rw [tk _ hl]; exact ⟨h1, hl, rfl, rfl⟩
    · cases h
  · split at h
    · rename_i q; cases h; rw [tk _ hw]; exact ⟨q.1, hw, rfl, rfl⟩
    · split at h
      · cases h
      · split at h
        · rename_i q; cases h; rw [tk _ hw]; exact ⟨q, hw, rfl, rfl⟩
        · split at h
          · cases h
          · rename_i q; cases h; rw [tk _ hg]; exact ⟨by omega, hg, rfl, rfl⟩
theorem oneF_bad {s : Txt} {p e q : Nat} (hs : 0 < s.length) (h : oneF s p = .bad e q) : q = p ∧ 0 < e := by
  rw [oneF_eq hs] at h
  by_cases h1 : DigitP (cI s[0])
  · rw [if_pos h1] at h
    unfold numT at h
    cases hn : numF 0 (s.take (lead DigitP s)) <;> rw [hn] at h <;> cases h
    exact ⟨rfl, by decide⟩
  · rw [if_neg h1] at h
    by_cases h2 : 0 < wordF s ∧ s.take (wordF s) ∈ wordsL
    · rw [if_pos h2] at h; cases h
    · rw [if_neg h2] at h
      by_cases h3 : 32 < wordF s
      · rw [if_pos h3] at h; cases h; exact ⟨rfl, by decide⟩
      · rw [if_neg h3] at h
        by_cases h4 : 0 < wordF s
        · rw [if_pos h4] at h; cases h
        · rw [if_neg h4] at h
          by_cases h5 : signF s = 0
          · rw [if_pos h5] at h; cases h; exact ⟨rfl, by decide⟩
          · rw [if_neg h5] at h; cases h
def lexV : Res (List Tok) → EV
  | .ok l => .tuple [.fz 0 4 (toks l), .agg [.int .i64 0, .int .i64 0]]
  | .bad e p => .tuple [.nilslice, .agg [.int .i64 (e : Int), .int .i64 (p : Int)]]
theorem Res.map_map {α β γ : Type} (f : α → β) (g : β → γ) (x : Res α) : (x.map f).map g = x.map (fun a => g (f a)) := by cases x <;> rfl
theorem tokens_loop {s : Txt} (hs : s.length < 1000000) {bx : Nat} {fr : Fr} {m0 : Mem} {p0 : Nat} (hp0 : p0 ≤ s.length) (hb : m0.get bx = .cells [.int .i64 0, .int .i64 0] 2 t_api_Fault false) (hbx : bx < m0.next) (h0 : fr.get 0 = .str s) (h3 : fr.get 3 = .ptr bx 0) (h4 : fr.get 4 = .nilslice) (h5 : fr.get 5 = .int .i64 (p0 : Int)) (hd : fr.defers = []) {k0 : Nat} (hk0 : s.length - p0 < k0) :
    ∃ o, exec U (.loop F_r05_Tokens_l0) fr m0 = some o ∧ ((∃ l : List Tok, toksF k0 (s.drop p0) p0 = .ok l ∧ ∃ fr' m', o = .exit 0 fr' m' ∧ (∃ v, fr'.get 4 = v ∧ Own m' v (toks l).flatten l.length 4 (bx + 1) ∧ l.length ≤ s.length) ∧ m'.get bx = .cells [.int .i64 0, .int .i64 0] 2 t_api_Fault false ∧ bx < m'.next ∧ fr'.get 0 = .str s ∧ fr'.get 3 = .ptr bx 0 ∧ fr'.defers = []) ∨
      (∃ e p, toksF k0 (s.drop p0) p0 = .bad e p ∧ ∃ fr' m', o = .ret fr' m' ∧ fr'.get 2 = .nilslice ∧ m'.get bx = .cells [.int .i64 (e : Int), .int .i64 (p : Int)] 2 t_api_Fault false ∧ fr'.get 3 = .ptr bx 0 ∧ fr'.defers = [])) := by
  refine loop_w (σ := Nat) (fun p fr m => p ≤ s.length ∧ fr.get 0 = .str s ∧ fr.get 3 = .ptr bx 0 ∧ (∃ (v : EV) (l : List Tok) (k : Nat), fr.get 4 = v ∧ Own m v (toks l).flatten l.length 4 (bx + 1) ∧ l.length ≤ p ∧ s.length - p < k ∧ toksF k0 (s.drop p0) p0 = (toksF k (s.drop p) p).map (l ++ ·)) ∧ m.get bx = .cells [.int .i64 0, .int .i64 0] 2 t_api_Fault false ∧ bx < m.next ∧ fr.get 5 = .int .i64 (p : Int) ∧ fr.defers = []) (fun p => s.length - p) _ ?_ p0 fr m0
    ⟨hp0, h0, h3, ⟨.nilslice, [], k0, h4, ⟨.inl ⟨rfl, rfl, rfl⟩, rfl⟩, Nat.zero_le _, hk0, by cases toksF k0 (s.drop p0) p0 <;> rfl⟩, hb, hbx, h5, hd⟩
  rintro p fr m ⟨hp, h0, h3, ⟨v, l, k, h4, hown, hlp, hk, hr⟩, hb, hbx, h5, hd⟩
  generalize hX : exec U F_r05_Tokens_l0 fr m = X
  by_cases hlt : p < s.length
  · have hc : (p : Int) < (s.length : Int) := by omega
    have hne : s.drop p ≠ [] := by intro q; have := congrArg List.length q; rw [List.length_drop, List.length_nil] at this; omega
    have h1 := one_eq (s := s.drop p) (p := p) (by rw [List.length_drop]; omega) hne
    have hbd : bound (some (.int .i64 (p : Int))) 0 s.length = some p := bound_cast hp
    have hbn : bound none s.length s.length = some s.length := rfl
    obtain ⟨k, rfl⟩ : ∃ k', k = k' + 1 := ⟨k - 1, by omega⟩
    have hstep : toksF (k + 1) (s.drop p) p = match oneF (s.drop p) p with
      | .bad e q => .bad e q
      | .ok t => (toksF k (((s.drop p).drop t.text.length).drop (skipF false ((s.drop p).drop t.text.length))) (p + t.text.length + skipF false ((s.drop p).drop t.text.length))).map (t :: ·) := by
      cases hsd : s.drop p with
      | nil => exact absurd hsd hne
      | cons c r => rfl
    rw [hstep] at hr
    cases ho : oneF (s.drop p) p with
    | bad e q =>
      simp only [ho, Res.map] at hr
      obtain ⟨rfl, he0⟩ := oneF_bad (by rw [List.length_drop]; omega) ho
      simp only [ho, oneV] at h1
      have hne0 : ¬ ((e : Int) = 0) := by omega
      simp +contextual -implicitDefEqProofs (maxSteps := 1000000) (maxDischargeDepth := 8) only [F_r05_Tokens_l0, h0, h3, h4, h5, hd, hc, hbd, hbn, h1, hb, hbx, hne0, List.take_length, Option.map_none, zz0, zz1, zz2, zz3, zz4, zz5, zz6, zz7, zz8, zz9, argsF, reduceIte, reduceCtorEq, Nat.reduceEqDiff, Nat.reduceBEq, Nat.reduceAdd, Int.reduceLT, Int.reduceLE, Int.reduceEq, Int.reduceToNat, Int.reduceNeg, Nat.reduceLeDiff, Int.reducePow, implies_true, UInt8.reduceToNat, Int.reduceSub, Int.reduceAdd, Nat.reduceLT, Nat.reduceMul, Nat.reduceSub, Nat.reduceBNe] at hX
      subst hX
      exact lw_ret (Or.inr ⟨e, q, hr, _, _, rfl, by simp only [get_set', selE_t, selE_f, Nat.reduceBEq, set_defers, fr00_get, fr00_defers, put_some, put_none ], by simp +contextual -implicitDefEqProofs (maxSteps := 1000000) (maxDischargeDepth := 8) only [hb, hbx, zz0, zz1, zz2, zz3, zz4, zz5, argsF, reduceIte, reduceCtorEq, Nat.reduceEqDiff, Nat.reduceBEq, Nat.reduceAdd, Int.reduceLT, Int.reduceLE, Int.reduceEq, Int.reduceToNat, Int.reduceNeg, Nat.reduceLeDiff, Int.reducePow, implies_true, UInt8.reduceToNat, Int.reduceSub, Int.reduceAdd, Nat.reduceLT, Nat.reduceMul, Nat.reduceSub], by simp only [h3, get_set', selE_t, selE_f, Nat.reduceBEq, set_defers, fr00_get, fr00_defers, put_some, put_none ], by simp only [hd, get_set', selE_t, selE_f, Nat.reduceBEq, set_defers, fr00_get, fr00_defers, put_some, put_none ]⟩)
    | ok t =>
      simp only [ho] at hr h1
      obtain ⟨g1, g2, g3, g4⟩ := oneF_len (by rw [List.length_drop]; omega) ho
      rw [List.length_drop] at g2
      have h1' : pureR B K n_r05_one [.str (s.drop p), .int .i64 (p : Int)] = some (.tuple [.agg [.int .i64 (t.kind : Int), .str t.text, .int .i64 (t.n : Int), .int .i64 (t.pos : Int)], .int .i64 0]) := h1
      clear h1
      have hM : (ext m [Blk.cells [EV.int .i64 (t.kind : Int), .str t.text, .int .i64 (t.n : Int), .int .i64 (t.pos : Int)] 4 t_api_Token false, Blk.cells [EV.int .i64 (t.kind : Int), .str t.text, .int .i64 (t.n : Int), .int .i64 (t.pos : Int)] 4 t_api_Token false]).get (nb m.next 1) = .cells [EV.int .i64 (t.kind : Int), .str t.text, .int .i64 (t.n : Int), .int .i64 (t.pos : Int)] 4 t_api_Token false := by rw [get_ext_nb rfl (by simp)]; rfl
      obtain ⟨ha, hown'⟩ := append_grow (e := t_api_Token) (hown.ext [Blk.cells [EV.int .i64 (t.kind : Int), .str t.text, .int .i64 (t.n : Int), .int .i64 (t.pos : Int)] 4 t_api_Token false, Blk.cells [EV.int .i64 (t.kind : Int), .str t.text, .int .i64 (t.n : Int), .int .i64 (t.pos : Int)] 4 t_api_Token false]) (by rw [next_ext]; unfold nb; omega) (source_at (cap := some 1) hM rfl) rfl (by decide) (by unfold room; omega)
      rw [next_ext, nb_nb] at ha
      generalize hG : grow (ext m [Blk.cells [EV.int .i64 (t.kind : Int), .str t.text, .int .i64 (t.n : Int), .int .i64 (t.pos : Int)] 4 t_api_Token false, Blk.cells [EV.int .i64 (t.kind : Int), .str t.text, .int .i64 (t.n : Int), .int .i64 (t.pos : Int)] 4 t_api_Token false]) v t_api_Token 4 _ = M2 at ha hown'
      have hMn : M2.next = nb m.next 3 := by rw [← hG, grow_next, next_ext, nb_nb]; rfl
      have hold : ∀ c, c < m.next → Off v c → M2.get c = m.get c := fun c hc ho => by
        rw [← hG, grow_old (by rw [next_ext]; unfold nb; omega) ho, get_ext_old hc]
      have hg6 : M2.get (nb m.next 0) = .cells [EV.int .i64 (t.kind : Int), .str t.text, .int .i64 (t.n : Int), .int .i64 (t.pos : Int)] 4 t_api_Token false := by
        rw [← hG, grow_old (by rw [next_ext]; unfold nb; simp) (show Off v (nb m.next 0) from hown.lt (.inl (Nat.le_refl _))), get_ext_nb rfl (by simp)]; rfl
      have hgb : M2.get bx = .cells [.int .i64 0, .int .i64 0] 2 t_api_Fault false := by rw [hold bx hbx (hown.lt (.inr (by omega))), hb]
      have hw1 : IntKind.i64.wrap ((p : Int) + (t.text.length : Int)) = ((p + t.text.length : Nat) : Int) := by rw [wrap_i64 (by omega) (by omega)]; omega
      have hsk := skip_eq (s := s.drop (p + t.text.length)) (by rw [List.length_drop]; omega)
      have hskl := skipF_le (s.drop (p + t.text.length)) false
      rw [List.length_drop] at hskl
      have hw2 : IntKind.i64.wrap (((p + t.text.length : Nat) : Int) + (skipF false (s.drop (p + t.text.length)) : Int)) = ((p + t.text.length + skipF false (s.drop (p + t.text.length)) : Nat) : Int) := by rw [wrap_i64 (by omega) (by omega)]; omega
      have hbd2 : bound (some (.int .i64 ((p + t.text.length : Nat) : Int))) 0 s.length = some (p + t.text.length) := bound_cast (by omega)
      simp +contextual -implicitDefEqProofs (maxSteps := 1000000) (maxDischargeDepth := 8) only [F_r05_Tokens_l0, h0, h3, h4, h5, hd, hc, hbd, hbn, h1', hb, hbx, ha, hMn, hg6, hgb, hw1, hw2, hsk, hbd2, List.take_length, Option.map_none, zz0, zz1, zz2, zz3, zz4, zz5, zz6, zz7, zz8, zz9, argsF, reduceIte, reduceCtorEq, Nat.reduceEqDiff, Nat.reduceBEq, Nat.reduceAdd, Int.reduceLT, Int.reduceLE, Int.reduceEq, Int.reduceToNat, Int.reduceNeg, Nat.reduceLeDiff, Int.reducePow, implies_true, UInt8.reduceToNat, Int.reduceSub, Int.reduceAdd, Nat.reduceLT, Nat.reduceMul, Nat.reduceSub, Nat.reduceBNe] at hX
      subst hX
      refine lw_norm (p + t.text.length + skipF false (s.drop (p + t.text.length))) (by omega) ⟨by omega, by simp only [h0, get_set', selE_t, selE_f, Nat.reduceBEq, set_defers, fr00_get, fr00_defers, put_some, put_none ], by simp only [h3, get_set', selE_t, selE_f, Nat.reduceBEq, set_defers, fr00_get, fr00_defers, put_some, put_none ], ⟨_, l ++ [t], k, by simp only [get_set', selE_t, selE_f, Nat.reduceBEq, set_defers, fr00_get, fr00_defers, put_some, put_none ]; rfl, ?_, by simp only [List.length_append, List.length_cons, List.length_nil]; omega, by omega, ?_⟩, hgb, by rw [hMn]; unfold nb; omega, by simp only [get_set', selE_t, selE_f, Nat.reduceBEq, set_defers, fr00_get, fr00_defers, put_some, put_none ], by simp only [hd, get_set', selE_t, selE_f, Nat.reduceBEq, set_defers, fr00_get, fr00_defers, put_some, put_none ]⟩
      · rw [toks_snoc, List.length_append]; exact hown'
      · rw [hr, Res.map_map]
        simp only [List.append_assoc, List.cons_append, List.nil_append, List.drop_drop]
  · have hc : ¬ ((p : Int) < (s.length : Int)) := by omega
    simp +contextual -implicitDefEqProofs (maxSteps := 1000000) (maxDischargeDepth := 8) only [F_r05_Tokens_l0, h0, h3, h4, h5, hd, hc, zz0, zz1, zz2, zz3, zz4, zz5, zz6, zz7, zz8, zz9, argsF, reduceIte, reduceCtorEq, Nat.reduceEqDiff, Nat.reduceBEq, Nat.reduceAdd, Int.reduceLT, Int.reduceLE, Int.reduceEq, Int.reduceToNat, Int.reduceNeg, Nat.reduceLeDiff, Int.reducePow, implies_true, UInt8.reduceToNat, Int.reduceSub, Int.reduceAdd, Nat.reduceLT, Nat.reduceMul, Nat.reduceSub, Nat.reduceBNe] at hX
    subst hX
    obtain rfl : p = s.length := by omega
    obtain ⟨k, rfl⟩ : ∃ k', k = k' + 1 := ⟨k - 1, by omega⟩
    rw [List.drop_length] at hr
    simp only [toksF, Res.map, List.append_nil] at hr
    exact lw_exit (Or.inl ⟨l, hr, _, _, rfl, ⟨v, by simp only [h4, get_set', selE_t, selE_f, Nat.reduceBEq, set_defers, fr00_get, fr00_defers, put_some, put_none ], hown, hlp⟩, hb, hbx, by simp only [h0, get_set', selE_t, selE_f, Nat.reduceBEq, set_defers, fr00_get, fr00_defers, put_some, put_none ], by simp only [h3, get_set', selE_t, selE_f, Nat.reduceBEq, set_defers, fr00_get, fr00_defers, put_some, put_none ], by simp only [hd, get_set', selE_t, selE_f, Nat.reduceBEq, set_defers, fr00_get, fr00_defers, put_some, put_none ]⟩)
theorem tokens_eq {s : Txt} (hs : s.length < 1000000) : pureR B K n_r05_Tokens [.str s] = some (lexV (lexF s)) := by
  have hlen : lexF s = if 65536 < s.length then .bad 3 0 else (toksF (s.length + 1) (s.drop (skipF false s)) (skipF false s)).map (· ++ [⟨0, [], 0, s.length⟩]) := rfl
  have hsk := skip_eq (s := s) (by omega)
  have hskl := skipF_le s false
  rw [pure_at (by simp [F_r05_Tokens])]
  generalize hL : exec (UT B K) (ICode.loop F_r05_Tokens_l0) = L
  by_cases h6 : 65536 < s.length
  · have hc : (65536 : Int) < (s.length : Int) := by omega
    rw [hlen, if_pos h6]
    simp +contextual -implicitDefEqProofs (maxSteps := 1000000) (maxDischargeDepth := 8) only [F_r05_Tokens, hc, lexV, zz0, zz1, zz2, zz3, zz4, zz5, zz6, zz7, zz8, zz9, argsF, reduceIte, reduceCtorEq, Nat.reduceEqDiff, Nat.reduceBEq, Nat.reduceAdd, Int.reduceLT, Int.reduceLE, Int.reduceEq, Int.reduceToNat, Int.reduceNeg, Nat.reduceLeDiff, Int.reducePow, implies_true, UInt8.reduceToNat, Int.reduceSub, Int.reduceAdd, Nat.reduceLT, Nat.reduceMul, Nat.reduceSub, Nat.reduceBNe]
  · have hc : ¬ (65536 : Int) < (s.length : Int) := by omega
    rw [hlen, if_neg h6]
    simp +contextual -implicitDefEqProofs (maxSteps := 1000000) (maxDischargeDepth := 8) only [F_r05_Tokens, hc, hsk, zz0, zz1, zz2, zz3, zz4, zz5, zz6, zz7, zz8, zz9, argsF, reduceIte, reduceCtorEq, Nat.reduceEqDiff, Nat.reduceBEq, Nat.reduceAdd, Int.reduceLT, Int.reduceLE, Int.reduceEq, Int.reduceToNat, Int.reduceNeg, Nat.reduceLeDiff, Int.reducePow, implies_true, UInt8.reduceToNat, Int.reduceSub, Int.reduceAdd, Nat.reduceLT, Nat.reduceMul, Nat.reduceSub, Nat.reduceBNe]
    subst hL
    generalize hX : exec _ (.loop F_r05_Tokens_l0) _ _ = X
    obtain ⟨o, rfl, h⟩ := looped hX (tokens_loop (s := s) hs (bx := nb mem00.next 0) (p0 := skipF false s) hskl (by simp +contextual -implicitDefEqProofs (maxSteps := 1000000) (maxDischargeDepth := 8) only [zz0, zz1, zz2, zz3, zz4, zz5, argsF, reduceIte, reduceCtorEq, Nat.reduceEqDiff, Nat.reduceBEq, Nat.reduceAdd, Int.reduceLT, Int.reduceLE, Int.reduceEq, Int.reduceToNat, Int.reduceNeg, Nat.reduceLeDiff, Int.reducePow, implies_true, UInt8.reduceToNat, Int.reduceSub, Int.reduceAdd, Nat.reduceLT, Nat.reduceMul, Nat.reduceSub]) (by rw [next_ext]; unfold nb; simp) (by simp only [get_set', selE_t, selE_f, Nat.reduceBEq, set_defers, fr00_get, fr00_defers, put_some, put_none ]) (by simp only [get_set', selE_t, selE_f, Nat.reduceBEq, set_defers, fr00_get, fr00_defers, put_some, put_none ]) (by simp only [get_set', selE_t, selE_f, Nat.reduceBEq, set_defers, fr00_get, fr00_defers, put_some, put_none ]) (by simp only [get_set', selE_t, selE_f, Nat.reduceBEq, set_defers, fr00_get, fr00_defers, put_some, put_none ]) (by simp only [get_set', selE_t, selE_f, Nat.reduceBEq, set_defers, fr00_get, fr00_defers, put_some, put_none ]) (k0 := s.length + 1) (by omega))
    rcases h with ⟨l, hl, fr', m', rfl, ⟨v, h4, hown, hll⟩, hb, hbx, h0, h3, hd⟩ | ⟨e, p, hl, fr', m', rfl, h2, hb, h3, hd⟩
    · rw [hl]
      have hM : (ext m' [.cells [EV.int .i64 0, .str [], .int .i64 0, .int .i64 (s.length : Int)] 4 t_api_Token false]).get (nb m'.next 0) = .cells [EV.int .i64 0, .str [], .int .i64 0, .int .i64 (s.length : Int)] 4 t_api_Token false := by rw [get_ext_nb rfl (by simp)]; rfl
      obtain ⟨ha, hown'⟩ := append_grow (e := t_api_Token) (hown.ext [.cells [EV.int .i64 0, .str [], .int .i64 0, .int .i64 (s.length : Int)] 4 t_api_Token false]) (by rw [next_ext]; unfold nb; unfold nb at hbx; omega) (source_at (cap := some 1) hM rfl) rfl (by decide) (by unfold room; omega)
      have hoff := hown.lt (c := nb mem00.next 0) (.inr (Nat.lt_succ_self _))
      have hgb : (grow (ext m' [.cells [EV.int .i64 0, .str [], .int .i64 0, .int .i64 (s.length : Int)] 4 t_api_Token false]) v t_api_Token 4 ((toks l).flatten ++ [EV.int .i64 0, .str [], .int .i64 0, .int .i64 (s.length : Int)])).get (nb mem00.next 0) = .cells [.int .i64 0, .int .i64 0] 2 t_api_Fault false := by
        rw [grow_old (by rw [next_ext]; unfold nb at hbx ⊢; omega) hoff, get_ext_old hbx]; exact hb
      rw [next_ext, nb_nb] at ha
      have hown2 := hown'
      have e1 : (toks l).flatten ++ [EV.int .i64 0, .str [], .int .i64 0, .int .i64 (s.length : Int)] = (toks (l ++ [⟨0, [], 0, s.length⟩])).flatten := (toks_snoc l ⟨0, [], 0, s.length⟩).symm
      generalize hG : grow _ v t_api_Token 4 _ = M2 at ha hgb hown2
      rw [e1] at hown2
      have hfz : frzV (M2.set (nb mem00.next 0) (.cells [.int .i64 0, .int .i64 0] 2 t_api_Fault false)) (.slice (nb (ext m' [.cells [EV.int .i64 0, .str [], .int .i64 0, .int .i64 (s.length : Int)] 4 t_api_Token false]).next 0) 0 (l.length + 1) none) = some (.fz 0 4 (toks (l ++ [⟨0, [], 0, s.length⟩]))) := by
        refine Own.frz_pos (hown2.keep' (Nat.le_refl _) fun c _ hlo _ => get_set_ne ?_) (by simp [toks]) (by omega) (toks_len _) (toks_plain _)
        omega
      rw [next_ext, nb_nb] at hfz
      simp only [List.length_cons, List.length_nil, Nat.zero_add, Nat.add_zero] at hfz
      simp +contextual -implicitDefEqProofs (maxSteps := 1000000) (maxDischargeDepth := 8) only [h0, h3, h4, hd, ha, hgb, hfz, lexV, Res.map, zz0, zz1, zz2, zz3, zz4, zz5, zz6, zz7, zz8, zz9, argsF, reduceIte, reduceCtorEq, Nat.reduceEqDiff, Nat.reduceBEq, Nat.reduceAdd, Int.reduceLT, Int.reduceLE, Int.reduceEq, Int.reduceToNat, Int.reduceNeg, Nat.reduceLeDiff, Int.reducePow, implies_true, UInt8.reduceToNat, Int.reduceSub, Int.reduceAdd, Nat.reduceLT, Nat.reduceMul, Nat.reduceSub, Nat.reduceBNe]
    · rw [hl]
      simp +contextual -implicitDefEqProofs (maxSteps := 1000000) (maxDischargeDepth := 8) only [h2, h3, hd, hb, lexV, Res.map, zz0, zz1, zz2, zz3, zz4, zz5, zz6, zz7, zz8, zz9, argsF, reduceIte, reduceCtorEq, Nat.reduceEqDiff, Nat.reduceBEq, Nat.reduceAdd, Int.reduceLT, Int.reduceLE, Int.reduceEq, Int.reduceToNat, Int.reduceNeg, Nat.reduceLeDiff, Int.reducePow, implies_true, UInt8.reduceToNat, Int.reduceSub, Int.reduceAdd, Nat.reduceLT, Nat.reduceMul, Nat.reduceSub, Nat.reduceBNe]
end Go.Proofs.Ytjgbofonigpjaaa.Ev
end
section
namespace Go.Proofs.Ytjgbofonigpjaaa.Ev
structure Nd where
  kind : Int
  kids : List Int
  nl : Bool
  n : Int
  s : Txt
  pos : Int
def exprK (k : Int) : Prop := 1 ≤ k ∧ k ≤ 11
def stmtK (k : Int) : Prop := 12 ≤ k ∧ k ≤ 22
def kindOf (l : List Nd) (x : Int) : Int := ((l[x.toNat]?).map Nd.kind).getD 0
def namedL : List Int := [4, 11, 12, 13, 14, 17, 24, 25]
def ownP (d : Nd) : Prop :=
  ¬ (((d.kind < 1 ∨ 26 < d.kind) ∨ d.pos < 0) ∨ ¬ (d.kind ∈ namedL ↔ d.s ≠ [])) ∧ ¬ (d.s ≠ [] ∧ ¬ nameP d.s) ∧
  (if d.kind = 1 then 0 ≤ d.n else if d.kind = 2 then d.n = 0 ∨ d.n = 1 else if d.kind = 5 then 1 ≤ d.n ∧ d.n ≤ 16 else if d.kind = 24 ∨ d.kind = 25 then 1 ≤ d.n ∧ d.n ≤ 3 else d.n = 0)
def exprsP (l : List Nd) (k : List Int) (n : Nat) : Prop := n ≤ k.length ∧ ∀ x ∈ k.take n, exprK (kindOf l x)
def allP (l : List Nd) (k : List Int) (kind : Int) (most : Nat) : Prop := (∀ x ∈ k, kindOf l x = kind) ∧ k.length ≤ most
def kidsP (l : List Nd) (d : Nd) : Prop :=
  if d.kind = 5 ∨ d.kind = 8 ∨ d.kind = 14 then d.kids.length = 2 ∧ exprsP l d.kids 2
  else if d.kind = 6 ∨ d.kind = 7 ∨ d.kind = 9 ∨ d.kind = 10 ∨ d.kind = 12 ∨ d.kind = 13 ∨ d.kind = 20 ∨ d.kind = 21 then d.kids.length = 1 ∧ exprsP l d.kids 1
  else if d.kind = 11 then d.kids.length ≤ 8 ∧ exprsP l d.kids d.kids.length
  else if d.kind = 15 then (exprsP l d.kids 1 ∧ 2 ≤ d.kids.length) ∧ allP l (d.kids.drop 1) 23 2
  else if d.kind = 16 then (exprsP l d.kids 1 ∧ d.kids.length = 2) ∧ allP l (d.kids.drop 1) 23 1
  else if d.kind = 17 then (exprsP l d.kids 2 ∧ d.kids.length = 3) ∧ allP l (d.kids.drop 2) 23 1
  else if d.kind = 22 then d.kids.length = 1 ∧ ∀ x ∈ d.kids, kindOf l x = 11
  else if d.kind = 23 then ∀ x ∈ d.kids, stmtK (kindOf l x)
  else if d.kind = 25 then (1 ≤ d.kids.length ∧ allP l (d.kids.take (d.kids.length - 1)) 24 8) ∧ ∀ x ∈ d.kids.getLast?, kindOf l x = 23
  else if d.kind = 26 then allP l d.kids 25 200
  else d.kids.length = 0
/-- Heights, by so many levels. -/
def highF (l : List Nd) : Nat → Nat → Nat
  | 0, _ => 1
  | f + 1, i => match l[i]? with
    | none => 1
    | some d => d.kids.foldl (fun h x => max h (1 + highF l f x.toNat)) 1
def highN (l : List Nd) (i : Nat) : Nat := highF l (i + 1) i
/-- All nodes' kids are before them. -/
def kidsLt (l : List Nd) : Prop := ∀ (i : Nat) (d : Nd), l[i]? = some d → ∀ x ∈ d.kids, 0 ≤ x ∧ x < (i : Int)
def usedL (l : List Nd) : List Int := (l.map Nd.kids).flatten
def rightP (l : List Nd) : Prop :=
  (kidsLt l ∧ (usedL l).Nodup ∧ ∀ d ∈ l, ownP d ∧ kidsP l d) ∧ 0 < l.length ∧ (usedL l).length = l.length - 1 ∧ highN l (l.length - 1) ≤ 200
end Go.Proofs.Ytjgbofonigpjaaa.Ev
end
section
namespace Go.Proofs.Ytjgbofonigpjaaa.Ev
structure RS where
  pos : Nat
  deep : Int
  tree : List Nd
  high : List Nat
  fe : Int
  fp : Int
/-- The token that is next. -/
def RS.now (st : RS) (l : List Tok) : Tok := l.getD (min st.pos (l.length - 1)) ⟨0, [], 0, 0⟩
def RS.is (st : RS) (l : List Tok) (s : Txt) : Prop := st.fe = 0 ∧ 3 ≤ (st.now l).kind ∧ (st.now l).text = s
instance (st : RS) (l : List Tok) (s : Txt) : Decidable (st.is l s) := inferInstanceAs (Decidable (_ ∧ _ ∧ _))
def RS.fail (st : RS) (e p : Int) : RS := if st.fe = 0 then { st with fe := e, fp := p } else st
def RS.next (st : RS) : RS := { st with pos := st.pos + 1 }
def RS.skip (st : RS) (l : List Tok) (s : Txt) : RS := if st.is l s then st.next else st
def RS.want (st : RS) (l : List Tok) (s : Txt) : RS := if st.is l s then st.next else st.fail 8 (st.now l).pos
def RS.open (st : RS) (p : Int) : RS := if 200 < st.deep + 1 then ({ st with deep := st.deep + 1 } : RS).fail 4 p else { st with deep := st.deep + 1 }
def RS.close (st : RS) : RS := { st with deep := st.deep - 1 }
/-- Heights: the greatest of what was, and one more than a kid's. -/
def hi1 (H : List Nat) (h : Nat) (x : Int) : Nat := if 0 ≤ x ∧ x < (H.length : Int) then max h (H.getD x.toNat 0 + 1) else h
def hiAll (H : List Nat) (ks : List Int) : Nat := ks.foldl (hi1 H) 1
/-- What is wrong when a node is to be laid. -/
def RS.put0 (st : RS) (d : Nd) : RS := if 200 < hiAll st.high d.kids then st.fail 4 d.pos else st
def RS.put (st : RS) (d : Nd) : RS := if (st.put0 d).fe = 0 then { st.put0 d with tree := st.tree ++ [d], high := st.high ++ [hiAll st.high d.kids] } else st.put0 d
def RS.putR (st : RS) (d : Nd) : Int := if (st.put0 d).fe = 0 then (st.tree.length : Int) else -1
/-- Signs of two: strength and number. -/
def opsF (s : Txt) : Int × Int :=
  if s = [124, 124] then (1, 1) else if s = [38, 38] then (2, 2) else if s = [61, 61] then (3, 3) else if s = [33, 61] then (3, 4)
  else if s = [60] then (3, 5) else if s = [60, 61] then (3, 6) else if s = [62] then (3, 7) else if s = [62, 61] then (3, 8)
  else if s = [43] then (4, 9) else if s = [45] then (4, 10) else if s = [43, 37] then (4, 11) else if s = [45, 37] then (4, 12)
  else if s = [42] then (5, 13) else if s = [47] then (5, 14) else if s = [37] then (5, 15) else if s = [42, 37] then (5, 16) else (0, 0)
/-- What the reader may be told to read. -/
inductive Cmd where
  | expr
  | climb (least : Int)
  | climbL (least most left : Int)
  | front
  | atom
  | cellsL (left : Int)
  | inner (from_ to : Txt)
  | args
  | argsL (out : List Int)
def nd (kind : Int) (kids : List Int) (n : Int) (s : Txt) (p : Int) : Nd := ⟨kind, kids, kids.isEmpty, n, s, p⟩
/-- A run of the reader, by so many levels: how it stands then, and what it answers. -/
def goF (l : List Tok) : Nat → Cmd → RS → Option (RS × List Int)
  | 0, _, _ => none
  | k + 1, .expr, st => (goF l k (.climb 1) st).bind fun (s1, r) => some (s1, if s1.fe = 0 then r else [-1])
  | k + 1, .climb least, st => (goF l k .front st).bind fun (s1, r) => goF l k (.climbL least 6 (r.headD 0)) s1
  | k + 1, .climbL least most left, st =>
    let t := st.now l
    let o := opsF t.text
    if st.fe = 0 ∧ ¬ (((t.kind ≠ 4 ∨ o.2 = 0) ∨ o.1 < least) ∨ most < o.1) then
      (goF l k (.climb (o.1 + 1)) st.next).bind fun (s1, r) =>
        goF l k (.climbL least (if o.1 = 3 then o.1 - 1 else o.1) (s1.putR (nd 5 [left, r.headD 0] o.2 [] t.pos))) (s1.put (nd 5 [left, r.headD 0] o.2 [] t.pos))
    else some (st, [left])
  | k + 1, .front, st =>
    let p : Int := (st.now l).pos
    let one := fun (kind : Int) =>
      if (st.next.open p).fe = 0 then
        (goF l k .front (st.next.open p)).bind fun (s1, r) => some (s1.close.put (nd kind r 0 [] p), [s1.close.putR (nd kind r 0 [] p)])
      else some (st.next.open p, [-1])
    if st.is l [45] then one 6
    else if st.is l [33] then one 7
    else (goF l k .atom st).bind fun (s1, r) => goF l k (.cellsL (r.headD 0)) s1
  | k + 1, .atom, st =>
    let t := st.now l
    let p : Int := t.pos
    let lay := fun (s : RS) (d : Nd) => some (s.put d, [s.putR d])
    if ¬ st.fe = 0 then some (st, [-1])
    else if st.is l [40] then goF l k (.inner [40] [41]) st
    else if t.kind = 2 then lay st.next (nd 1 [] t.n [] p)
    else if t.kind = 1 then
      if st.next.is l [40] then (goF l k .args st.next).bind fun (s1, r) => lay s1 (nd 11 r 0 t.text p)
      else lay st.next (nd 4 [] 0 t.text p)
    else if st.is l [116, 114, 117, 101] then lay st.next (nd 2 [] 1 [] p)
    else if st.is l [102, 97, 108, 115, 101] then lay st.next (nd 2 [] 0 [] p)
    else if st.is l [110, 105, 108] then lay st.next (nd 3 [] 0 [] p)
    else if st.is l [108, 101, 110] then (goF l k (.inner [40] [41]) st.next).bind fun (s1, r) => lay s1 (nd 9 r 0 [] p)
    else if st.is l [110, 101, 119] then (goF l k (.inner [40] [41]) st.next).bind fun (s1, r) => lay s1 (nd 10 r 0 [] p)
    else some (st.fail 8 p, [-1])
  | k + 1, .cellsL left, st =>
    if st.is l [91] then
      (goF l k (.inner [91] [93]) st).bind fun (s1, r) =>
        goF l k (.cellsL (s1.putR (nd 8 (left :: r) 0 [] (st.now l).pos))) (s1.put (nd 8 (left :: r) 0 [] (st.now l).pos))
    else some (st, [left])
  | k + 1, .inner a z, st =>
    if st.is l a then
      if (st.next.open (st.now l).pos).fe = 0 then
        (goF l k .expr (st.next.open (st.now l).pos)).bind fun (s1, r) => some ((s1.want l z).close, if (s1.want l z).fe = 0 then r else [-1])
      else some (st.next.open (st.now l).pos, [-1])
    else some (st.fail 8 (st.now l).pos, [-1])
  | k + 1, .args, st =>
    if st.is l [40] then
      if (st.next.open (st.now l).pos).fe = 0 then
        (if (st.next.open (st.now l).pos).is l [41] then some (st.next.open (st.now l).pos, []) else goF l k (.argsL []) (st.next.open (st.now l).pos)).bind fun (s1, r) => some ((s1.want l [41]).close, r)
      else some (st.next.open (st.now l).pos, [])
    else some (st.fail 8 (st.now l).pos, [])
  | k + 1, .argsL out, st =>
    let s0 := if out.length = 8 then st.fail 3 (st.now l).pos else st
    (goF l k .expr s0).bind fun (s1, r) =>
      if s1.is l [44] then goF l k (.argsL (out ++ r)) s1.next else some (s1, out ++ r)
end Go.Proofs.Ytjgbofonigpjaaa.Ev
end
section
namespace Go.Proofs.Ytjgbofonigpjaaa.Ev
set_option linter.unusedSimpArgs false
set_option linter.unusedVariables false
def Cmd.rank : Cmd → Nat
  | .expr => 4 | .climb _ => 3 | .climbL _ _ _ => 0 | .front => 2 | .atom => 1 | .cellsL _ => 1 | .inner _ _ => 0 | .args => 0 | .argsL _ => 5
/-- The last token alone is no token. -/
structure TokOk (l : List Tok) : Prop where
  pos : 0 < l.length
  lt : l.length < 1000000
  last : (l.getD (l.length - 1) ⟨0, [], 0, 0⟩).kind = 0
structure StOk (l : List Tok) (st : RS) : Prop where
  p : st.pos < l.length
  t : st.tree.length ≤ st.pos
  d : st.deep ≤ (st.pos : Int)
  d0 : 0 ≤ st.deep
  h : ∀ x ∈ st.high, x ≤ 200
/-- How far it comes. -/
structure Gr (l : List Tok) (st s1 : RS) : Prop where
  p : st.pos ≤ s1.pos
  pl : s1.pos < l.length
  t : s1.tree.length + st.pos ≤ st.tree.length + s1.pos
  d : s1.deep + (st.pos : Int) ≤ st.deep + (s1.pos : Int)
  d0 : st.deep ≤ s1.deep
  f : s1.fe = 0 → st.fe = 0
  h : (∀ x ∈ st.high, x ≤ 200) → ∀ x ∈ s1.high, x ≤ 200
theorem Gr.refl {l : List Tok} {st : RS} (h : st.pos < l.length) : Gr l st st := ⟨Nat.le_refl _, h, Nat.le_refl _, Int.le_refl _, Int.le_refl _, id, id⟩
theorem Gr.trans {l : List Tok} {a b c : RS} (h : Gr l a b) (h' : Gr l b c) : Gr l a c :=
  ⟨Nat.le_trans h.p h'.p, h'.pl, by have := h.t; have := h'.t; omega, by have := h.d; have := h'.d; omega, by have := h.d0; have := h'.d0; omega, fun q => h.f (h'.f q), fun q => h'.h (h.h q)⟩
theorem Gr.ok {l : List Tok} {a b : RS} (h : Gr l a b) (o : StOk l a) : StOk l b :=
  ⟨h.pl, by have := h.t; have := o.t; omega, by have := h.d; have := o.d; omega, by have := h.d0; have := o.d0; omega, h.h o.h⟩
section
variable {l : List Tok} {st s1 : RS}
theorem next_lt (ht : TokOk l) (hp : st.pos < l.length) (hk : (st.now l).kind ≠ 0) : st.pos + 1 < l.length := by
  refine Classical.byContradiction fun q => hk ?_
  have : min st.pos (l.length - 1) = l.length - 1 := by omega
  unfold RS.now; rw [this]; exact ht.last
theorem is_lt (ht : TokOk l) (hp : st.pos < l.length) {s : Txt} (h : st.is l s) : st.pos + 1 < l.length := next_lt ht hp (by have := h.2.1; omega)
theorem Gr.next (h : st.pos + 1 < l.length) : Gr l st st.next := ⟨Nat.le_succ _, h, by simp only [RS.next]; omega, by simp only [RS.next]; omega, Int.le_refl _, id, id⟩
theorem Gr.fail (h : st.pos < l.length) {e p : Int} (he : e ≠ 0) : Gr l st (st.fail e p) := by
  unfold RS.fail; split
  · exact ⟨Nat.le_refl _, h, Nat.le_refl _, Int.le_refl _, Int.le_refl _, fun q => absurd q he, id⟩
  · exact .refl h
theorem fail_fe {e p : Int} (he : e ≠ 0) : (st.fail e p).fe ≠ 0 := by
  unfold RS.fail; split
  · exact he
  · assumption
theorem fail_pos {e p : Int} : (st.fail e p).pos = st.pos ∧ (st.fail e p).deep = st.deep ∧ (st.fail e p).tree = st.tree ∧ (st.fail e p).high = st.high := by
  unfold RS.fail; split <;> exact ⟨rfl, rfl, rfl, rfl⟩
/-- A token taken, a level opened. -/
theorem Gr.open (h : st.pos + 1 < l.length) {p : Int} : Gr l st (st.next.open p) := by
  unfold RS.open
  split
  · obtain ⟨a1, a2, a3, a4⟩ := fail_pos (st := { st.next with deep := st.next.deep + 1 }) (e := 4) (p := p)
    exact ⟨by rw [a1]; exact Nat.le_succ _, by rw [a1]; exact h, by rw [a1, a3]; simp only [RS.next]; omega, by rw [a1, a2]; simp only [RS.next]; omega, by rw [a2]; simp only [RS.next]; omega, fun q => absurd q (fail_fe (by decide)), fun q => by rw [a4]; exact q⟩
  · exact ⟨Nat.le_succ _, h, by simp only [RS.next]; omega, by simp only [RS.next]; omega, by simp only [RS.next]; omega, id, id⟩
theorem open_pos {p : Int} : (st.open p).pos = st.pos ∧ (st.open p).deep = st.deep + 1 ∧ (st.open p).tree = st.tree := by
  unfold RS.open
  split
  · obtain ⟨a1, a2, a3, a4⟩ := fail_pos (st := { st with deep := st.deep + 1 }) (e := 4) (p := p)
    exact ⟨a1, a2, a3⟩
  · exact ⟨rfl, rfl, rfl⟩
/-- One more node, of a token that was taken. -/
theorem Gr.put (h : Gr l st s1) (h1 : s1.tree.length + st.pos + 1 ≤ st.tree.length + s1.pos) {d : Nd} : Gr l st (s1.put d) := by
  unfold RS.put RS.put0
  by_cases h2 : 200 < hiAll s1.high d.kids
  · rw [if_pos h2, if_neg (fail_fe (by decide))]
    exact h.trans (.fail h.pl (by decide))
  · rw [if_neg h2]
    split
    · refine ⟨h.p, h.pl, by simp only [List.length_append, List.length_singleton]; omega, h.d, h.d0, h.f, fun q x hx => ?_⟩
      rcases List.mem_append.1 hx with hx | hx
      · exact h.h q x hx
      · rw [List.mem_singleton.1 hx]; omega
    · exact h
/-- A level closed. -/
theorem Gr.close (h : Gr l st s1) (h1 : st.deep + 1 ≤ s1.deep) : Gr l st s1.close := ⟨h.p, h.pl, h.t, by have := h.d; simp only [RS.close]; omega, by simp only [RS.close]; omega, h.f, h.h⟩
theorem Gr.want (ht : TokOk l) (h : st.pos < l.length) {s : Txt} : Gr l st (st.want l s) := by
  unfold RS.want; split
  · rename_i q; exact .next (is_lt ht h q)
  · exact .fail h (by decide)
theorem want_deep {s : Txt} : (st.want l s).deep = st.deep ∧ (st.want l s).tree = st.tree := by
  unfold RS.want; split
  · exact ⟨rfl, rfl⟩
  · exact ⟨fail_pos.2.1, fail_pos.2.2.1⟩
/-- What answers have. -/
def Cmd.ans : Cmd → List Int → Prop
  | .args, r => r.length ≤ 9
  | .argsL _, r => r.length ≤ 9
  | _, r => r.length = 1
def Cmd.may : Cmd → Prop
  | .argsL out => out.length ≤ 8
  | _ => True
def Cmd.more (l : List Tok) (st s1 : RS) : Cmd → Prop
  | .inner a _ => st.is l a → st.pos < s1.pos ∧ s1.tree.length + st.pos + 1 ≤ st.tree.length + s1.pos
  | _ => True
end
theorem go_ok {l : List Tok} (ht : TokOk l) : ∀ (k : Nat) (c : Cmd) (st : RS), st.pos < l.length → 8 * (l.length - st.pos) + c.rank < k → c.may → ∃ s1 r, goF l k c st = some (s1, r) ∧ Gr l st s1 ∧ c.ans r ∧ c.more l st s1 := by
  intro k
  induction k with
  | zero => intro c st hp hk; omega
  | succ k ih =>
    intro c st hp hk hm
    cases c with
    | expr =>
      obtain ⟨s1, r, e, g, a, _⟩ := ih (.climb 1) st hp (by simp only [Cmd.rank] at *; omega) trivial
      refine ⟨_, _, by simp only [goF, e, Option.bind_some]; rfl, g, ?_, trivial⟩
      simp only [Cmd.ans] at *
      split
      · exact a
      · rfl
    | climb least =>
      obtain ⟨s1, r, e, g, a, _⟩ := ih .front st hp (by simp only [Cmd.rank] at *; omega) trivial
      obtain ⟨s2, r2, e2, g2, a2, _⟩ := ih (.climbL least 6 (r.headD 0)) s1 g.pl (by have := g.p; simp only [Cmd.rank] at *; omega) trivial
      exact ⟨_, _, by simp only [goF, e, e2, Option.bind_some], g.trans g2, a2, trivial⟩
    | climbL least most left =>
      simp only [goF]
      by_cases hc : st.fe = 0 ∧ ¬ ((((st.now l).kind ≠ 4 ∨ (opsF (st.now l).text).2 = 0) ∨ (opsF (st.now l).text).1 < least) ∨ most < (opsF (st.now l).text).1)
      · rw [if_pos hc]
        have hn := next_lt ht hp (by have := hc.2; omega)
        have gn := Gr.next hn
        obtain ⟨s1, r, e, g, a, _⟩ := ih (.climb ((opsF (st.now l).text).1 + 1)) st.next hn (by simp only [Cmd.rank, RS.next] at *; omega) trivial
        have g1 := gn.trans g
        have g2 := g1.put (by have := g.t; simp only [RS.next] at this; omega) (d := nd 5 [left, r.headD 0] (opsF (st.now l).text).2 [] (st.now l).pos)
        obtain ⟨s2, r2, e2, g3, a2, _⟩ := ih (.climbL least (if (opsF (st.now l).text).1 = 3 then (opsF (st.now l).text).1 - 1 else (opsF (st.now l).text).1) (s1.putR (nd 5 [left, r.headD 0] (opsF (st.now l).text).2 [] (st.now l).pos))) (s1.put (nd 5 [left, r.headD 0] (opsF (st.now l).text).2 [] (st.now l).pos)) g2.pl (by have := g2.p; have := g.p; have hq : (s1.put (nd 5 [left, r.headD 0] (opsF (st.now l).text).2 [] (st.now l).pos)).pos = s1.pos := (by unfold RS.put RS.put0; split <;> split <;> first | rfl | exact fail_pos.1); simp only [Cmd.rank, RS.next] at *; omega) trivial
        exact ⟨_, _, by simp only [e, e2, Option.bind_some], g2.trans g3, a2, trivial⟩
      · rw [if_neg hc]
        exact ⟨_, _, rfl, .refl hp, rfl, trivial⟩
    | front =>
      simp only [goF]
      have one : ∀ (s : Txt) (kind : Int), st.is l s → ∃ s1 r, (if (st.next.open (st.now l).pos).fe = 0 then (goF l k .front (st.next.open (st.now l).pos)).bind fun (s1, r) => some (s1.close.put (nd kind r 0 [] (st.now l).pos), [s1.close.putR (nd kind r 0 [] (st.now l).pos)]) else some (st.next.open (st.now l).pos, [-1])) = some (s1, r) ∧ Gr l st s1 ∧ Cmd.front.ans r ∧ Cmd.front.more l st s1 := by
        intro s kind hs
        have hn := is_lt ht hp hs
        have go := Gr.open hn (p := ((st.now l).pos : Int))
        obtain ⟨o1, o2, o3⟩ := open_pos (st := st.next) (p := ((st.now l).pos : Int))
        split
        · obtain ⟨s1, r, e, g, a, _⟩ := ih .front (st.next.open (st.now l).pos) go.pl (by rw [o1]; simp only [Cmd.rank, RS.next] at *; omega) trivial
          have g1 := (go.trans g).close (by have := g.d0; rw [o2] at this; simp only [RS.next] at this; exact this)
          refine ⟨_, _, by simp only [e, Option.bind_some]; rfl, g1.put ?_, by rfl, trivial⟩
          have := g.t; rw [o1, o3] at this; simp only [RS.next, RS.close] at *; omega
        · exact ⟨_, _, rfl, go, rfl, trivial⟩
      by_cases h1 : st.is l [45]
      · rw [if_pos h1]; exact one _ _ h1
      · rw [if_neg h1]
        by_cases h2 : st.is l [33]
        · rw [if_pos h2]; exact one _ _ h2
        · rw [if_neg h2]
          obtain ⟨s1, r, e, g, a, _⟩ := ih .atom st hp (by simp only [Cmd.rank] at *; omega) trivial
          obtain ⟨s2, r2, e2, g2, a2, _⟩ := ih (.cellsL (r.headD 0)) s1 g.pl (by have := g.p; simp only [Cmd.rank] at *; omega) trivial
          exact ⟨_, _, by simp only [e, e2, Option.bind_some], g.trans g2, a2, trivial⟩
    | atom =>
      simp only [goF]
      have lay : ∀ d : Nd, st.pos + 1 < l.length → Gr l st (st.next.put d) := fun d hn => (Gr.next hn).put (by simp only [RS.next]; omega)
      by_cases h0 : st.fe = 0
      · rw [if_neg (not_not_intro h0)]
        by_cases h1 : st.is l [40]
        · rw [if_pos h1]
          obtain ⟨s1, r, e, g, a, _⟩ := ih (.inner [40] [41]) st hp (by simp only [Cmd.rank] at *; omega) trivial
          exact ⟨_, _, e, g, a, trivial⟩
        · rw [if_neg h1]
          by_cases h2 : (st.now l).kind = 2
          · rw [if_pos h2]; exact ⟨_, _, rfl, lay _ (next_lt ht hp (by omega)), rfl, trivial⟩
          · rw [if_neg h2]
            by_cases h3 : (st.now l).kind = 1
            · rw [if_pos h3]
              have hn := next_lt ht hp (by omega)
              by_cases h4 : st.next.is l [40]
              · rw [if_pos h4]
                obtain ⟨s1, r, e, g, a, _⟩ := ih .args st.next hn (by simp only [Cmd.rank, RS.next] at *; omega) trivial
                refine ⟨_, _, by simp only [e, Option.bind_some]; rfl, ((Gr.next hn).trans g).put ?_, by rfl, trivial⟩
                have := g.t; simp only [RS.next] at this; omega
              · rw [if_neg h4]; exact ⟨_, _, rfl, lay _ hn, rfl, trivial⟩
            · rw [if_neg h3]
              by_cases h5 : st.is l [116, 114, 117, 101]
              · rw [if_pos h5]; exact ⟨_, _, rfl, lay _ (is_lt ht hp h5), rfl, trivial⟩
              · rw [if_neg h5]
                by_cases h6 : st.is l [102, 97, 108, 115, 101]
                · rw [if_pos h6]; exact ⟨_, _, rfl, lay _ (is_lt ht hp h6), rfl, trivial⟩
                · rw [if_neg h6]
                  by_cases h7 : st.is l [110, 105, 108]
                  · rw [if_pos h7]; exact ⟨_, _, rfl, lay _ (is_lt ht hp h7), rfl, trivial⟩
                  · rw [if_neg h7]
                    have inn : ∀ (s : Txt) (f : List Int → Nd), st.is l s → ∃ s1 r, ((goF l k (.inner [40] [41]) st.next).bind fun (s1, r) => some (s1.put (f r), [s1.putR (f r)])) = some (s1, r) ∧ Gr l st s1 ∧ Cmd.atom.ans r ∧ Cmd.atom.more l st s1 := by
                      intro s f hs
                      have hn := is_lt ht hp hs
                      obtain ⟨s1, r, e, g, a, _⟩ := ih (.inner [40] [41]) st.next hn (by simp only [Cmd.rank, RS.next] at *; omega) trivial
                      refine ⟨_, _, by simp only [e, Option.bind_some]; rfl, ((Gr.next hn).trans g).put ?_, by rfl, trivial⟩
                      have := g.t; simp only [RS.next] at this; omega
                    by_cases h8 : st.is l [108, 101, 110]
                    · rw [if_pos h8]; exact inn _ (fun r => nd 9 r 0 [] (st.now l).pos) h8
                    · rw [if_neg h8]
                      by_cases h9 : st.is l [110, 101, 119]
                      · rw [if_pos h9]; exact inn _ (fun r => nd 10 r 0 [] (st.now l).pos) h9
                      · rw [if_neg h9]
                        exact ⟨_, _, rfl, .fail hp (by decide), rfl, trivial⟩
      · rw [if_pos h0]
        exact ⟨_, _, rfl, .refl hp, rfl, trivial⟩
    | cellsL left =>
      simp only [goF]
      by_cases h1 : st.is l [91]
      · rw [if_pos h1]
        obtain ⟨s1, r, e, g, a, mo⟩ := ih (.inner [91] [93]) st hp (by simp only [Cmd.rank] at *; omega) trivial
        obtain ⟨m1, m2⟩ := mo h1
        have g1 := g.put (by omega) (d := nd 8 (left :: r) 0 [] (st.now l).pos)
        obtain ⟨s2, r2, e2, g2, a2, _⟩ := ih (.cellsL (s1.putR (nd 8 (left :: r) 0 [] (st.now l).pos))) (s1.put (nd 8 (left :: r) 0 [] (st.now l).pos)) g1.pl (by have hq : (s1.put (nd 8 (left :: r) 0 [] (st.now l).pos)).pos = s1.pos := (by unfold RS.put RS.put0; split <;> split <;> first | rfl | exact fail_pos.1); simp only [Cmd.rank] at *; omega) trivial
        exact ⟨_, _, by simp only [e, e2, Option.bind_some], g1.trans g2, a2, trivial⟩
      · rw [if_neg h1]
        exact ⟨_, _, rfl, .refl hp, rfl, trivial⟩
    | inner a z =>
      simp only [goF]
      by_cases h1 : st.is l a
      · rw [if_pos h1]
        have hn := is_lt ht hp h1
        have go := Gr.open hn (p := ((st.now l).pos : Int))
        obtain ⟨o1, o2, o3⟩ := open_pos (st := st.next) (p := ((st.now l).pos : Int))
        split
        · obtain ⟨s1, r, e, g, ar, _⟩ := ih .expr (st.next.open (st.now l).pos) go.pl (by rw [o1]; simp only [Cmd.rank, RS.next] at *; omega) trivial
          have gw := Gr.want ht g.pl (s := z)
          obtain ⟨w1, w2⟩ := want_deep (st := s1) (l := l) (s := z)
          have g1 := ((go.trans g).trans gw).close (by have := g.d0; rw [o2] at this; rw [w1]; simp only [RS.next] at this; exact this)
          refine ⟨_, _, by simp only [e, Option.bind_some]; rfl, g1, ?_, fun _ => ?_⟩
          · simp only [Cmd.ans] at *
            split
            · exact ar
            · rfl
          · have h3 := g.t; have h4 := g.p; have h5 := gw.p
            rw [o1, o3] at h3; rw [o1] at h4; simp only [RS.next, RS.close] at *
            rw [w2]; omega
        · refine ⟨_, _, rfl, go, rfl, fun _ => ?_⟩
          rw [o1, o3]; simp only [RS.next]; omega
      · rw [if_neg h1]
        exact ⟨_, _, rfl, .fail hp (by decide), rfl, fun q => absurd q h1⟩
    | args =>
      simp only [goF]
      by_cases h1 : st.is l [40]
      · rw [if_pos h1]
        have hn := is_lt ht hp h1
        have go := Gr.open hn (p := ((st.now l).pos : Int))
        obtain ⟨o1, o2, o3⟩ := open_pos (st := st.next) (p := ((st.now l).pos : Int))
        have fin : ∀ (s1 : RS), Gr l (st.next.open (st.now l).pos) s1 → Gr l st (s1.want l [41]).close := by
          intro s1 g
          have gw := Gr.want ht g.pl (s := [41])
          obtain ⟨w1, w2⟩ := want_deep (st := s1) (l := l) (s := [41])
          exact ((go.trans g).trans gw).close (by have := g.d0; rw [o2] at this; rw [w1]; simp only [RS.next] at this; exact this)
        split
        · by_cases h2 : (st.next.open (st.now l).pos).is l [41]
          · rw [if_pos h2]
            exact ⟨_, _, rfl, fin _ (.refl go.pl), Nat.zero_le _, trivial⟩
          · rw [if_neg h2]
            obtain ⟨s1, r, e, g, a, _⟩ := ih (.argsL []) (st.next.open (st.now l).pos) go.pl (by rw [o1]; simp only [Cmd.rank, RS.next] at *; omega) (Nat.zero_le _)
            exact ⟨_, _, by simp only [e, Option.bind_some], fin _ g, a, trivial⟩
        · exact ⟨_, _, rfl, go, Nat.zero_le _, trivial⟩
      · rw [if_neg h1]
        exact ⟨_, _, rfl, .fail hp (by decide), Nat.zero_le _, trivial⟩
    | argsL out =>
      simp only [goF]
      have hm : out.length ≤ 8 := hm
      have g0 : Gr l st (if out.length = 8 then st.fail 3 (st.now l).pos else st) := by
        split
        · exact .fail hp (by decide)
        · exact .refl hp
      have p0 : (if out.length = 8 then st.fail 3 (st.now l).pos else st).pos = st.pos := by
        split
        · exact fail_pos.1
        · rfl
      have f0 : (if out.length = 8 then st.fail 3 (st.now l).pos else st).fe = 0 → out.length < 8 := by
        split
        · exact fun q => absurd q (fail_fe (by decide))
        · intro _; omega
      generalize (if out.length = 8 then st.fail 3 (st.now l).pos else st) = s0 at *
      obtain ⟨s1, r, e, g, a, _⟩ := ih .expr s0 g0.pl (by rw [p0]; simp only [Cmd.rank] at *; omega) trivial
      have a : r.length = 1 := a
      simp only [e, Option.bind_some]
      by_cases h1 : s1.is l [44]
      · rw [if_pos h1]
        have hn := is_lt ht g.pl h1
        obtain ⟨s2, r2, e2, g2, a2, _⟩ := ih (.argsL (out ++ r)) s1.next hn (by have := g.p; simp only [Cmd.rank, RS.next] at *; omega) (by
          show (out ++ r).length ≤ 8
          rw [List.length_append, a]
          have := f0 (g.f h1.1)
          omega)
        exact ⟨_, _, e2, (g0.trans g).trans ((Gr.next hn).trans g2), a2, trivial⟩
      · rw [if_neg h1]
        exact ⟨_, _, rfl, g0.trans g, by show (out ++ r).length ≤ 9; rw [List.length_append, a]; omega, trivial⟩
def opsL : List (Int × Int) := [(1, 1), (2, 2), (3, 3), (3, 4), (3, 5), (3, 6), (3, 7), (3, 8), (4, 9), (4, 10), (4, 11), (4, 12), (5, 13), (5, 14), (5, 15), (5, 16), (0, 0)]
theorem opsF_mem (s : Txt) : opsF s ∈ opsL := by
  unfold opsF
  by_cases h : s = [124, 124]
  · rw [if_pos h]; decide
  rw [if_neg h]
  clear h
  by_cases h : s = [38, 38]
  · rw [if_pos h]; decide
  rw [if_neg h]
  clear h
  by_cases h : s = [61, 61]
  · rw [if_pos h]; decide
  rw [if_neg h]
  clear h
  by_cases h : s = [33, 61]
  · rw [if_pos h]; decide
  rw [if_neg h]
  clear h
  by_cases h : s = [60]
  · rw [if_pos h]; decide
  rw [if_neg h]
  clear h
  by_cases h : s = [60, 61]
  · rw [if_pos h]; decide
  rw [if_neg h]
  clear h
  by_cases h : s = [62]
  · rw [if_pos h]; decide
  rw [if_neg h]
  clear h
  by_cases h : s = [62, 61]
  · rw [if_pos h]; decide
  rw [if_neg h]
  clear h
  by_cases h : s = [43]
  · rw [if_pos h]; decide
  rw [if_neg h]
  clear h
  by_cases h : s = [45]
  · rw [if_pos h]; decide
  rw [if_neg h]
  clear h
  by_cases h : s = [43, 37]
  · rw [if_pos h]; decide
  rw [if_neg h]
  clear h
  by_cases h : s = [45, 37]
  · rw [if_pos h]; decide
  rw [if_neg h]
  clear h
  by_cases h : s = [42]
  · rw [if_pos h]; decide
  rw [if_neg h]
  clear h
  by_cases h : s = [47]
  · rw [if_pos h]; decide
  rw [if_neg h]
  clear h
  by_cases h : s = [37]
  · rw [if_pos h]; decide
  rw [if_neg h]
  clear h
  by_cases h : s = [42, 37]
  · rw [if_pos h]; decide
  rw [if_neg h]
  clear h
  decide
theorem opsF_le (s : Txt) : 0 ≤ (opsF s).1 ∧ (opsF s).1 ≤ 5 ∧ 0 ≤ (opsF s).2 ∧ (opsF s).2 ≤ 16 := by
  have key : ∀ p ∈ opsL, 0 ≤ p.1 ∧ p.1 ≤ 5 ∧ 0 ≤ p.2 ∧ p.2 ≤ 16 := by decide
  exact key _ (opsF_mem s)
end Go.Proofs.Ytjgbofonigpjaaa.Ev
end
section
namespace Go.Proofs.Ytjgbofonigpjaaa.Ev
open Go
set_option linter.unusedSimpArgs false
set_option maxRecDepth 10000
set_option maxHeartbeats 4000000
def ints (l : List Int) : List (List EV) := l.map fun n => [.int .i64 n]
theorem ints_get {l : List Int} {i : Nat} : (ints l)[i]? = (l[i]?).map fun n => [.int .i64 n] := by unfold ints; rw [List.getElem?_map]
theorem ints_len {l : List Int} : (ints l).length = l.length := by unfold ints; rw [List.length_map]
def Nd.cells (d : Nd) : List EV := [.int .i64 d.kind, row d.nl 0 1 (ints d.kids), .int .i64 d.n, .str d.s, .int .i64 d.pos]
def nds (l : List Nd) : List (List EV) := l.map Nd.cells
theorem nds_get {l : List Nd} {i : Nat} : (nds l)[i]? = (l[i]?).map Nd.cells := by unfold nds; rw [List.getElem?_map]
theorem nds_len {l : List Nd} : (nds l).length = l.length := by unfold nds; rw [List.length_map]
end Go.Proofs.Ytjgbofonigpjaaa.Ev
end
section
namespace Go.Proofs.Ytjgbofonigpjaaa.Ev
open Go
set_option linter.unusedSimpArgs false
set_option maxRecDepth 10000
set_option maxHeartbeats 4000000
def validK (l : List Nd) (k : List Int) : Prop := ∀ x ∈ k, 0 ≤ x ∧ x < (l.length : Int)
end Go.Proofs.Ytjgbofonigpjaaa.Ev
end
section
namespace Go.Proofs.Ytjgbofonigpjaaa.Ev
open Go
set_option linter.unusedSimpArgs false
set_option maxRecDepth 10000
set_option maxHeartbeats 4000000
theorem highF_more {l : List Nd} (hk : kidsLt l) : ∀ (f i : Nat), i < f → highF l f i = highN l i := by
  have key : ∀ (i f g : Nat), i < f → i < g → highF l f i = highF l g i := by
    intro i
    induction i using Nat.strongRecOn with
    | _ i ih =>
      intro f g hf hg
      obtain ⟨f, rfl⟩ : ∃ f', f = f' + 1 := ⟨f - 1, by omega⟩
      obtain ⟨g, rfl⟩ : ∃ g', g = g' + 1 := ⟨g - 1, by omega⟩
      simp only [highF]
      cases hd : l[i]? with
      | none => rfl
      | some d =>
        simp only
        have hx := hk i d hd
        generalize d.kids = ks at hx
        have : ∀ (ks : List Int) (a : Nat), (∀ x ∈ ks, 0 ≤ x ∧ x < (i : Int)) → ks.foldl (fun h x => max h (1 + highF l f x.toNat)) a = ks.foldl (fun h x => max h (1 + highF l g x.toNat)) a := by
          intro ks
          induction ks with
          | nil => intro a _; rfl
          | cons x ks ihk =>
            intro a h
            have := h x (by simp)
            rw [List.foldl_cons, List.foldl_cons, ih x.toNat (by omega) f g (by omega) (by omega)]
            exact ihk _ fun y hy => h y (by simp [hy])
        exact this ks 1 hx
  intro f i h
  exact key i f (i + 1) h (by omega)
/-- A node's height, of its kids' heights. -/
theorem highN_eq {l : List Nd} (hk : kidsLt l) {i : Nat} {d : Nd} (hd : l[i]? = some d) : highN l i = d.kids.foldl (fun h x => max h (1 + highN l x.toNat)) 1 := by
  unfold highN
  rw [highF]
  simp only [hd]
  have hx := hk i d hd
  generalize d.kids = ks at hx
  have : ∀ (ks : List Int) (a : Nat), (∀ x ∈ ks, 0 ≤ x ∧ x < (i : Int)) → ks.foldl (fun h x => max h (1 + highF l i x.toNat)) a = ks.foldl (fun h x => max h (1 + highF l (x.toNat + 1) x.toNat)) a := by
    intro ks
    induction ks with
    | nil => intro a _; rfl
    | cons x ks ihk =>
      intro a h
      have := h x (by simp)
      rw [List.foldl_cons, List.foldl_cons, highF_more hk i x.toNat (by omega)]
      exact ihk _ fun y hy => h y (by simp [hy])
  exact this ks 1 hx
end Go.Proofs.Ytjgbofonigpjaaa.Ev
end
section
namespace Go.Proofs.Ytjgbofonigpjaaa.Ev
set_option linter.unusedSimpArgs false
set_option linter.unusedVariables false
set_option maxHeartbeats 4000000
def cntU (l : List Nd) (a : Int) : Nat := (usedL l).count a
theorem cntU_nil {a : Int} : cntU [] a = 0 := rfl
theorem cntU_app {x y : List Nd} {a : Int} : cntU (x ++ y) a = cntU x a + cntU y a := by simp [cntU, usedL]
theorem cntU_one {d : Nd} {a : Int} : cntU [d] a = d.kids.count a := by simp [cntU, usedL]
def inR (lo hi : Nat) (a : Int) : Nat := if (lo : Int) ≤ a ∧ a < (hi : Int) then 1 else 0
theorem inR_split {a b c : Nat} {x : Int} (h : a ≤ b) (h' : b ≤ c) : inR a c x = inR a b x + inR b c x := by
  unfold inR
  by_cases h1 : (a : Int) ≤ x ∧ x < (b : Int) <;> by_cases h2 : (b : Int) ≤ x ∧ x < (c : Int) <;> by_cases h3 : (a : Int) ≤ x ∧ x < (c : Int) <;> first | (rw [if_pos h1, if_pos h2]; exfalso; omega) | (rw [if_pos h1, if_neg h2, if_pos h3]) | (rw [if_neg h1, if_pos h2, if_pos h3]) | (rw [if_neg h1, if_neg h2, if_neg h3]) | (exfalso; omega)
theorem inR_same {a : Nat} {x : Int} : inR a a x = 0 := by unfold inR; rw [if_neg (by omega)]
theorem inR_one {a : Nat} {x : Int} : inR a (a + 1) x = [(a : Int)].count x := by
  unfold inR
  by_cases h : x = (a : Int)
  · subst h; rw [if_pos (by omega)]; simp
  · rw [if_neg (by omega), List.count_eq_zero_of_not_mem (by simpa using h)]
/-- What a node of a reader is. -/
structure NdOk (l : List Tok) (d : Nd) : Prop where
  own : ownP d
  kind : exprK d.kind
  pos : ∃ t ∈ l, d.pos = (t.pos : Int)
  kn : if d.kind = 5 ∨ d.kind = 8 then d.kids.length = 2 else if d.kind = 6 ∨ d.kind = 7 ∨ d.kind = 9 ∨ d.kind = 10 then d.kids.length = 1 else if d.kind = 11 then d.kids.length ≤ 8 else d.kids.length = 0
structure TrOk (l : List Tok) (st : RS) : Prop where
  lt : kidsLt st.tree
  ok : ∀ d ∈ st.tree, NdOk l d
  hl : st.high.length = st.tree.length
  hh : ∀ i, i < st.tree.length → st.high[i]? = some (highN st.tree i)
structure TI (l : List Tok) (st : RS) : Prop where
  t : st.fe = 0 → TrOk l st
  f : st.fe ≠ 0 → ∃ t ∈ l, st.fp = (t.pos : Int)
structure Post (l : List Tok) (ins : List Int) (st s1 : RS) (r : List Int) : Prop where
  inv : TI l s1
  ok : s1.fe = 0 → st.fe = 0 ∧ ∃ new, s1.tree = st.tree ++ new ∧ ∀ a, cntU new a + r.count a = ins.count a + inR st.tree.length s1.tree.length a
section
variable {l : List Tok} {st s1 s2 : RS}
theorem now_mem (h : 0 < l.length) : st.now l ∈ l := by
  have : min st.pos (l.length - 1) < l.length := by omega
  unfold RS.now
  rw [List.getD_eq_getElem?_getD, List.getElem?_eq_getElem this]
  exact List.getElem_mem this
/-- The same nodes. -/
theorem TI.same (h : TI l st) (h1 : s1.tree = st.tree) (h2 : s1.high = st.high) (h3 : s1.fe = st.fe) (h4 : s1.fp = st.fp) : TI l s1 where
  t q := by have := h.t (h3 ▸ q); exact ⟨by rw [h1]; exact this.lt, by rw [h1]; exact this.ok, by rw [h1, h2]; exact this.hl, by rw [h1, h2]; exact this.hh⟩
  f q := by rw [h4]; exact h.f (h3 ▸ q)
theorem TI.fail (h : TI l st) {e : Int} {p : Int} (he : e ≠ 0) (hp : ∃ t ∈ l, p = (t.pos : Int)) : TI l (st.fail e p) := by
  unfold RS.fail
  split
  · exact ⟨fun q => absurd q he, fun _ => hp⟩
  · exact h
theorem TI.next (h : TI l st) : TI l st.next := h.same rfl rfl rfl rfl
theorem TI.close (h : TI l st) : TI l st.close := h.same rfl rfl rfl rfl
theorem TI.open (h : TI l st) {p : Int} (hp : ∃ t ∈ l, p = (t.pos : Int)) : TI l (st.open p) := by
  unfold RS.open
  split
  · exact TI.fail (e := 4) (h.same (s1 := { st with deep := st.deep + 1 }) rfl rfl rfl rfl) (by decide) hp
  · exact h.same rfl rfl rfl rfl
theorem TI.want (hl : 0 < l.length) (h : TI l st) {s : Txt} : TI l (st.want l s) := by
  unfold RS.want
  split
  · exact h.next
  · exact h.fail (by decide) ⟨_, now_mem hl, rfl⟩
theorem want_ok {s : Txt} (h : (st.want l s).fe = 0) : st.fe = 0 ∧ (st.want l s).tree = st.tree := by
  unfold RS.want at h ⊢
  split at h
  · rename_i q; rw [if_pos q]; exact ⟨h, rfl⟩
  · exact absurd h (fail_fe (by decide))
theorem open_ok {p : Int} (h : (st.open p).fe = 0) : st.fe = 0 ∧ (st.open p).tree = st.tree := by
  unfold RS.open at h ⊢
  split at h
  · exact absurd h (fail_fe (by decide))
  · rename_i q; rw [if_neg q]; exact ⟨h, rfl⟩
/-! ### Heights -/
theorem highN_app {x y : List Nd} (hk : kidsLt (x ++ y)) : ∀ i, i < x.length → highN (x ++ y) i = highN x i := by
  intro i
  induction i using Nat.strongRecOn with
  | _ i ih =>
    intro hi
    have hkx : kidsLt x := fun j d hj => hk j d (by rw [List.getElem?_append_left (List.getElem?_eq_some_iff.1 hj).1]; exact hj)
    have hd : x[i]? = some x[i] := List.getElem?_eq_getElem hi
    have hd' : (x ++ y)[i]? = some x[i] := by rw [List.getElem?_append_left hi]; exact hd
    rw [highN_eq hk hd', highN_eq hkx hd]
    have hlt := hkx i _ hd
    have : ∀ (ks : List Int) (a : Nat), (∀ z ∈ ks, 0 ≤ z ∧ z < (i : Int)) → ks.foldl (fun h x_1 => max h (1 + highN (x ++ y) x_1.toNat)) a = ks.foldl (fun h x_1 => max h (1 + highN x x_1.toNat)) a := by
      intro ks
      induction ks with
      | nil => intro _ _; rfl
      | cons z ks ihk =>
        intro a hz
        have hz0 := hz z (by simp)
        rw [List.foldl_cons, List.foldl_cons, ih z.toNat (by omega) (by omega)]
        exact ihk _ fun w hw => hz w (by simp [hw])
    exact this _ _ hlt
theorem kidsLt_snoc {x : List Nd} {d : Nd} (hk : kidsLt x) (hd : ∀ z ∈ d.kids, 0 ≤ z ∧ z < (x.length : Int)) : kidsLt (x ++ [d]) := by
  intro i e hi
  by_cases h : i < x.length
  · rw [List.getElem?_append_left h] at hi; exact hk i e hi
  · rw [List.getElem?_append_right (by omega)] at hi
    have : i = x.length := by
      have := (List.getElem?_eq_some_iff.1 hi).1
      simp only [List.length_singleton] at this; omega
    subst this
    simp only [Nat.sub_self, List.getElem?_cons_zero, Option.some.injEq] at hi
    subst hi; exact hd
/-- A node is laid. -/
theorem put_inv (h : TI l st) {d : Nd} (hp : ∃ t ∈ l, d.pos = (t.pos : Int)) (hd : st.fe = 0 → NdOk l d ∧ ∀ z ∈ d.kids, 0 ≤ z ∧ z < (st.tree.length : Int)) : TI l (st.put d) ∧ ((st.put d).fe = 0 → st.fe = 0 ∧ (st.put d).tree = st.tree ++ [d] ∧ st.putR d = (st.tree.length : Int)) := by
  unfold RS.put RS.putR RS.put0
  by_cases h2 : 200 < hiAll st.high d.kids
  · rw [if_pos h2, if_neg (fail_fe (by decide))]
    exact ⟨h.fail (by decide) hp, fun q => absurd q (fail_fe (by decide))⟩
  · rw [if_neg h2]
    by_cases hfe : st.fe = 0
    · rw [if_pos hfe, if_pos hfe]
      refine ⟨⟨fun _ => ?_, fun q => absurd hfe q⟩, fun _ => ⟨hfe, rfl, rfl⟩⟩
      obtain ⟨hn, hk⟩ := hd hfe
      have ht := h.t hfe
      have hk2 := kidsLt_snoc ht.lt hk
      refine ⟨hk2, ?_, ?_, ?_⟩
      · intro e he
        rcases List.mem_append.1 he with he | he
        · exact ht.ok e he
        · rw [List.mem_singleton.1 he]; exact hn
      · show (st.high ++ [_]).length = (st.tree ++ [d]).length
        rw [List.length_append, List.length_append, ht.hl]; rfl
      · intro i hi
        show (st.high ++ [_])[i]? = some (highN (st.tree ++ [d]) i)
        have hi : i < (st.tree ++ [d]).length := hi
        rw [List.length_append, List.length_singleton] at hi
        by_cases h' : i < st.tree.length
        · rw [List.getElem?_append_left (by rw [ht.hl]; exact h'), ht.hh i h', highN_app hk2 i h']
        · have : i = st.tree.length := by omega
          subst this
          rw [List.getElem?_append_right (by rw [ht.hl]; exact Nat.le_refl _), ht.hl, Nat.sub_self, List.getElem?_cons_zero, highN_eq hk2 (d := d) (by rw [List.getElem?_append_right (Nat.le_refl _), Nat.sub_self]; rfl)]
          congr 1
          unfold hiAll
          have : ∀ (ks : List Int) (a : Nat), (∀ z ∈ ks, 0 ≤ z ∧ z < (st.tree.length : Int)) → ks.foldl (hi1 st.high) a = ks.foldl (fun h x => max h (1 + highN (st.tree ++ [d]) x.toNat)) a := by
            intro ks
            induction ks with
            | nil => intro _ _; rfl
            | cons z ks ihk =>
              intro a hz
              have hz0 := hz z (by simp)
              rw [List.foldl_cons, List.foldl_cons, ihk _ fun w hw => hz w (by simp [hw])]
              congr 1
              unfold hi1
              have e1 := ht.hh z.toNat (by omega)
              rw [if_pos (by rw [ht.hl]; omega), List.getD_eq_getElem?_getD, e1, Option.getD_some, highN_app hk2 _ (by omega), Nat.add_comm]
          exact this _ _ hk
    · rw [if_neg hfe]
      exact ⟨h, fun q => absurd q hfe⟩
end
end Go.Proofs.Ytjgbofonigpjaaa.Ev
end
section
namespace Go.Proofs.Ytjgbofonigpjaaa.Ev
set_option linter.unusedSimpArgs false
set_option linter.unusedVariables false
set_option maxHeartbeats 4000000
def Cmd.ins : Cmd → List Int
  | .climbL _ _ left => [left] | .cellsL left => [left] | .argsL out => out | _ => []
def Cmd.len (s1 : RS) (r : List Int) : Cmd → Prop
  | .args => s1.fe = 0 → r.length ≤ 8
  | .argsL _ => s1.fe = 0 → r.length ≤ 8
  | _ => r.length = 1
def InT (st : RS) (xs : List Int) : Prop := st.fe = 0 → ∀ x ∈ xs, 0 ≤ x ∧ x < (st.tree.length : Int)
section
variable {l : List Tok} {st st' s1 s1' s2 : RS} {ins mid r r' : List Int}
theorem Post.val (h : Post l ins st s1 r) (hi : InT st ins) : InT s1 r := by
  intro q x hx
  obtain ⟨h0, new, hn, hc⟩ := h.ok q
  have h1 := hc x
  have h2 : 0 < r.count x := List.count_pos_iff.2 hx
  have hlen : s1.tree.length = st.tree.length + new.length := by rw [hn, List.length_append]
  by_cases h3 : x ∈ ins
  · have := hi h0 x h3; omega
  · rw [List.count_eq_zero_of_not_mem h3] at h1
    unfold inR at h1
    split at h1
    · omega
    · omega
theorem Post.refl (h : TI l st) : Post l ins st st ins := ⟨h, fun q => ⟨q, [], by simp, fun a => by rw [cntU_nil, inR_same]; omega⟩⟩
theorem Post.bad (h : TI l s1) (h0 : s1.fe ≠ 0) : Post l ins st s1 r := ⟨h, fun q => absurd q h0⟩
theorem Post.trans (h : Post l ins st s1 mid) (h' : Post l mid s1 s2 r) : Post l ins st s2 r := by
  refine ⟨h'.inv, fun q => ?_⟩
  obtain ⟨h1, n2, e2, c2⟩ := h'.ok q
  obtain ⟨h0, n1, e1, c1⟩ := h.ok h1
  refine ⟨h0, n1 ++ n2, by rw [e2, e1, List.append_assoc], fun a => ?_⟩
  have := c1 a; have := c2 a
  have l1 : s1.tree.length = st.tree.length + n1.length := by rw [e1, List.length_append]
  have l2 : s2.tree.length = s1.tree.length + n2.length := by rw [e2, List.length_append]
  rw [cntU_app, inR_split (b := s1.tree.length) (by omega) (by omega)]
  omega
theorem Post.cong (h : Post l ins st s1 r) (hi : TI l s1') (h0 : st.fe = 0 → st'.fe = 0 ∧ st'.tree = st.tree) (h2 : s1'.fe = 0 → s1.fe = 0 ∧ s1'.tree = s1.tree ∧ r' = r) : Post l ins st' s1' r' := by
  refine ⟨hi, fun q => ?_⟩
  obtain ⟨q1, q2, rfl⟩ := h2 q
  obtain ⟨p0, n1, e1, c1⟩ := h.ok q1
  obtain ⟨p1, p2⟩ := h0 p0
  exact ⟨p1, n1, by rw [q2, p2, e1], fun a => by rw [q2, p2]; exact c1 a⟩
theorem Post.put {extra : List Int} {d : Nd} (h : Post l ins st s1 r) (hi : InT st ins) (hp : ∃ t ∈ l, d.pos = (t.pos : Int)) (hd : s1.fe = 0 → NdOk l d) (hk : ∀ a, d.kids.count a = extra.count a + r.count a) (hx : InT st extra) : Post l (extra ++ ins) st (s1.put d) [s1.putR d] := by
  have hv := h.val hi
  obtain ⟨g1, g2⟩ := put_inv (st := s1) h.inv hp fun q => ⟨hd q, fun z hz => by
    have h2 : 0 < d.kids.count z := List.count_pos_iff.2 hz
    rw [hk z] at h2
    obtain ⟨h0, new, hn, _⟩ := h.ok q
    have hlen : s1.tree.length = st.tree.length + new.length := by rw [hn, List.length_append]
    by_cases h3 : z ∈ extra
    · have := hx h0 z h3; omega
    · rw [List.count_eq_zero_of_not_mem h3] at h2
      exact hv q z (List.count_pos_iff.1 (by omega))⟩
  refine ⟨g1, fun q => ?_⟩
  obtain ⟨p0, p1, p2⟩ := g2 q
  obtain ⟨h0, new, hn, hc⟩ := h.ok p0
  have hlen : s1.tree.length = st.tree.length + new.length := by rw [hn, List.length_append]
  refine ⟨h0, new ++ [d], by rw [p1, hn, List.append_assoc], fun a => ?_⟩
  rw [cntU_app, cntU_one, hk, p2, List.count_append, p1, List.length_append, List.length_singleton, inR_split (b := s1.tree.length) (by omega) (by omega), inR_one]
  have := hc a
  omega
end
theorem nd_ok {l : List Tok} {kind n : Int} {kids : List Int} {s : Txt} {t : Tok} (ht : t ∈ l) (h1 : exprK kind) (h2 : kind ∈ namedL ↔ s ≠ []) (h3 : s ≠ [] → nameP s) (h4 : if kind = 1 then 0 ≤ n else if kind = 2 then n = 0 ∨ n = 1 else if kind = 5 then 1 ≤ n ∧ n ≤ 16 else if kind = 24 ∨ kind = 25 then 1 ≤ n ∧ n ≤ 3 else n = 0) (h5 : if kind = 5 ∨ kind = 8 then kids.length = 2 else if kind = 6 ∨ kind = 7 ∨ kind = 9 ∨ kind = 10 then kids.length = 1 else if kind = 11 then kids.length ≤ 8 else kids.length = 0) : NdOk l (nd kind kids n s (t.pos : Int)) := by
  refine ⟨⟨?_, fun q => q.2 (h3 q.1), h4⟩, h1, ⟨t, ht, rfl⟩, h5⟩
  rintro ((q | q) | q)
  · have := h1.1; have := h1.2; simp only [nd] at q; omega
  · simp only [nd] at q; omega
  · exact q h2
theorem opsF_two {s : Txt} (h : (opsF s).2 ≠ 0) : 1 ≤ (opsF s).2 ∧ (opsF s).2 ≤ 16 := by
  have := opsF_le s; omega
end Go.Proofs.Ytjgbofonigpjaaa.Ev
end
section
namespace Go.Proofs.Ytjgbofonigpjaaa.Ev
set_option linter.unusedSimpArgs false
set_option linter.unusedVariables false
set_option maxHeartbeats 4000000
theorem bind_some {α β : Type} {x : Option α} {f : α → Option β} {b : β} (h : x.bind f = some b) : ∃ a, x = some a ∧ f a = some b := by
  cases x with
  | none => cases h
  | some a => exact ⟨a, rfl, h⟩
theorem one_of' {r : List Int} (h : r.length = 1) : ∃ x, r = [x] := by
  match r, h with
  | [x], _ => exact ⟨x, rfl⟩
theorem InT.nil {st : RS} : InT st [] := fun _ _ h => by cases h
theorem go_tr {l : List Tok} (hl : 0 < l.length) (hg : ∀ t ∈ l, t.kind = 1 → t.text ≠ [] ∧ nameP t.text) : ∀ (k : Nat) (c : Cmd) (st s1 : RS) (r : List Int), goF l k c st = some (s1, r) → TI l st → InT st c.ins → c.may → Post l c.ins st s1 r ∧ c.len s1 r := by
  intro k
  induction k with
  | zero => intro c st s1 r h; cases h
  | succ k ih =>
    intro c st s1 r h hT hI hm
    have hmem := now_mem (st := st) hl
    have hpos : ∃ t ∈ l, ((st.now l).pos : Int) = (t.pos : Int) := ⟨_, hmem, rfl⟩
    cases c with
    | expr =>
      simp only [goF] at h
      obtain ⟨⟨s2, r2⟩, h1, h2⟩ := bind_some h
      simp only [Option.some.injEq, Prod.mk.injEq] at h2
      obtain ⟨rfl, rfl⟩ := h2
      obtain ⟨p, n⟩ := ih _ _ _ _ h1 hT InT.nil trivial
      refine ⟨p.cong p.inv (fun q => ⟨q, rfl⟩) fun q => ⟨q, rfl, if_pos q⟩, ?_⟩
      show List.length _ = 1
      split
      · exact n
      · rfl
    | climb least =>
      simp only [goF] at h
      obtain ⟨⟨s2, r2⟩, h1, h2⟩ := bind_some h
      obtain ⟨p, n⟩ := ih _ _ _ _ h1 hT InT.nil trivial
      obtain ⟨x, rfl⟩ := one_of' n
      simp only [List.headD_cons] at h2
      obtain ⟨p2, n2⟩ := ih _ _ _ _ h2 p.inv (p.val InT.nil) trivial
      exact ⟨p.trans p2, n2⟩
    | climbL least most left =>
      simp only [goF] at h
      split at h
      · rename_i hc
        obtain ⟨⟨s2, r2⟩, h1, h2⟩ := bind_some h
        obtain ⟨p, n⟩ := ih _ _ _ _ h1 hT.next InT.nil trivial
        obtain ⟨x, rfl⟩ := one_of' n
        simp only [List.headD_cons] at h2
        have p1 : Post l [] st s2 [x] := p.cong p.inv (fun q => ⟨q, rfl⟩) fun q => ⟨q, rfl, rfl⟩
        have o := opsF_two (s := (st.now l).text) (by have := hc.2; omega)
        have p2 := p1.put (extra := [left]) (d := nd 5 [left, x] (opsF (st.now l).text).2 [] (st.now l).pos) InT.nil hpos (fun _ => nd_ok hmem ⟨by decide, by decide⟩ (by decide) (fun q => absurd rfl q) o rfl) (fun a => by simp only [nd, List.count_cons, List.count_nil]; omega) hI
        rw [List.append_nil] at p2
        obtain ⟨p3, n3⟩ := ih _ _ _ _ h2 p2.inv (p2.val hI) trivial
        exact ⟨p2.trans p3, n3⟩
      · simp only [Option.some.injEq, Prod.mk.injEq] at h
        obtain ⟨rfl, rfl⟩ := h
        exact ⟨Post.refl hT, rfl⟩
    | front =>
      simp only [goF] at h
      have one : ∀ (kind : Int), kind = 6 ∨ kind = 7 → (if (st.next.open (st.now l).pos).fe = 0 then (goF l k .front (st.next.open (st.now l).pos)).bind fun (s1, r) => some (s1.close.put (nd kind r 0 [] (st.now l).pos), [s1.close.putR (nd kind r 0 [] (st.now l).pos)]) else some (st.next.open (st.now l).pos, [-1])) = some (s1, r) → Post l [] st s1 r ∧ r.length = 1 := by
        intro kind hkind h
        split at h
        · rename_i hf
          obtain ⟨⟨s2, r2⟩, h1, h2⟩ := bind_some h
          simp only [Option.some.injEq, Prod.mk.injEq] at h2
          obtain ⟨rfl, rfl⟩ := h2
          obtain ⟨p, n⟩ := ih _ _ _ _ h1 (hT.next.open hpos) InT.nil trivial
          obtain ⟨x, rfl⟩ := one_of' n
          have p1 : Post l [] st s2.close [x] := p.cong p.inv.close (fun q => by obtain ⟨a, b⟩ := open_ok q; exact ⟨a, b.symm⟩) fun q => ⟨q, rfl, rfl⟩
          have p2 := p1.put (extra := []) (d := nd kind [x] 0 [] (st.now l).pos) InT.nil hpos (fun _ => by
            rcases hkind with rfl | rfl <;> exact nd_ok hmem ⟨by decide, by decide⟩ (by decide) (fun q => absurd rfl q) rfl rfl) (fun a => by simp only [nd, List.count_nil]; omega) InT.nil
          exact ⟨p2, rfl⟩
        · rename_i hf
          simp only [Option.some.injEq, Prod.mk.injEq] at h
          obtain ⟨rfl, rfl⟩ := h
          exact ⟨Post.bad (hT.next.open hpos) hf, rfl⟩
      split at h
      · exact one 6 (.inl rfl) h
      · split at h
        · exact one 7 (.inr rfl) h
        · obtain ⟨⟨s2, r2⟩, h1, h2⟩ := bind_some h
          obtain ⟨p, n⟩ := ih _ _ _ _ h1 hT InT.nil trivial
          obtain ⟨x, rfl⟩ := one_of' n
          simp only [List.headD_cons] at h2
          obtain ⟨p2, n2⟩ := ih _ _ _ _ h2 p.inv (p.val InT.nil) trivial
          exact ⟨p.trans p2, n2⟩
    | atom =>
      simp only [goF] at h
      have p0 : Post l [] st st.next [] := (Post.refl hT).cong hT.next (fun q => ⟨q, rfl⟩) fun q => ⟨q, rfl, rfl⟩
      have leaf : ∀ (kind n : Int) (s : Txt), NdOk l (nd kind [] n s (st.now l).pos) → some (st.next.put (nd kind [] n s (st.now l).pos), [st.next.putR (nd kind [] n s (st.now l).pos)]) = some (s1, r) → Post l [] st s1 r ∧ r.length = 1 := by
        intro kind n s hn h
        simp only [Option.some.injEq, Prod.mk.injEq] at h
        obtain ⟨rfl, rfl⟩ := h
        exact ⟨p0.put (extra := []) InT.nil hpos (fun _ => hn) (fun a => by simp only [nd, List.count_nil]) InT.nil, rfl⟩
      have inn : ∀ kind : Int, kind = 9 ∨ kind = 10 → ((goF l k (.inner [40] [41]) st.next).bind fun (s1, r) => some (s1.put (nd kind r 0 [] (st.now l).pos), [s1.putR (nd kind r 0 [] (st.now l).pos)])) = some (s1, r) → Post l [] st s1 r ∧ r.length = 1 := by
        intro kind hkind h
        obtain ⟨⟨s2, r2⟩, h1, h2⟩ := bind_some h
        simp only [Option.some.injEq, Prod.mk.injEq] at h2
        obtain ⟨rfl, rfl⟩ := h2
        obtain ⟨p, n⟩ := ih _ _ _ _ h1 hT.next InT.nil trivial
        obtain ⟨x, rfl⟩ := one_of' n
        have p1 : Post l [] st s2 [x] := p.cong p.inv (fun q => ⟨q, rfl⟩) fun q => ⟨q, rfl, rfl⟩
        exact ⟨p1.put (extra := []) (d := nd kind [x] 0 [] (st.now l).pos) InT.nil hpos (fun _ => by
          rcases hkind with rfl | rfl <;> exact nd_ok hmem ⟨by decide, by decide⟩ (by decide) (fun q => absurd rfl q) rfl rfl) (fun a => by simp only [nd, List.count_nil]; omega) InT.nil, rfl⟩
      split at h
      · rename_i hf
        simp only [Option.some.injEq, Prod.mk.injEq] at h
        obtain ⟨rfl, rfl⟩ := h
        exact ⟨Post.bad hT hf, rfl⟩
      · split at h
        · obtain ⟨p, n⟩ := ih _ _ _ _ h hT InT.nil trivial
          exact ⟨p, n⟩
        · split at h
          · exact leaf 1 _ [] (nd_ok hmem ⟨by decide, by decide⟩ (by decide) (fun q => absurd rfl q) (Int.natCast_nonneg _) rfl) h
          · split at h
            · rename_i hk1
              obtain ⟨t1, t2⟩ := hg _ hmem hk1
              split at h
              · obtain ⟨⟨s2, r2⟩, h1, h2⟩ := bind_some h
                simp only [Option.some.injEq, Prod.mk.injEq] at h2
                obtain ⟨rfl, rfl⟩ := h2
                obtain ⟨p, n⟩ := ih _ _ _ _ h1 hT.next InT.nil trivial
                have p1 : Post l [] st s2 r2 := p.cong p.inv (fun q => ⟨q, rfl⟩) fun q => ⟨q, rfl, rfl⟩
                exact ⟨p1.put (extra := []) (d := nd 11 r2 0 (st.now l).text (st.now l).pos) InT.nil hpos (fun q => nd_ok hmem ⟨by decide, by decide⟩ ⟨fun _ => t1, fun _ => by decide⟩ (fun _ => t2) rfl (n q)) (fun a => by simp only [nd, List.count_nil]; omega) InT.nil, rfl⟩
              · exact leaf 4 0 _ (nd_ok hmem ⟨by decide, by decide⟩ ⟨fun _ => t1, fun _ => by decide⟩ (fun _ => t2) rfl rfl) h
            · split at h
              · exact leaf 2 1 [] (nd_ok hmem ⟨by decide, by decide⟩ (by decide) (fun q => absurd rfl q) (.inr rfl) rfl) h
              · split at h
                · exact leaf 2 0 [] (nd_ok hmem ⟨by decide, by decide⟩ (by decide) (fun q => absurd rfl q) (.inl rfl) rfl) h
                · split at h
                  · exact leaf 3 0 [] (nd_ok hmem ⟨by decide, by decide⟩ (by decide) (fun q => absurd rfl q) rfl rfl) h
                  · split at h
                    · exact inn 9 (.inl rfl) h
                    · split at h
                      · exact inn 10 (.inr rfl) h
                      · simp only [Option.some.injEq, Prod.mk.injEq] at h
                        obtain ⟨rfl, rfl⟩ := h
                        exact ⟨Post.bad (hT.fail (by decide) hpos) (fail_fe (by decide)), rfl⟩
    | cellsL left =>
      simp only [goF] at h
      split at h
      · obtain ⟨⟨s2, r2⟩, h1, h2⟩ := bind_some h
        obtain ⟨p, n⟩ := ih _ _ _ _ h1 hT InT.nil trivial
        obtain ⟨x, rfl⟩ := one_of' n
        have p2 := Post.put (extra := [left]) (d := nd 8 [left, x] 0 [] (st.now l).pos) p InT.nil hpos (fun _ => nd_ok hmem ⟨by decide, by decide⟩ (by decide) (fun q => absurd rfl q) rfl rfl) (fun a => by simp only [nd, List.count_cons, List.count_nil]; omega) hI
        have p2 : Post l [left] st _ _ := p2
        obtain ⟨p3, n3⟩ := ih _ _ _ _ h2 p2.inv (p2.val hI) trivial
        exact ⟨p2.trans p3, n3⟩
      · simp only [Option.some.injEq, Prod.mk.injEq] at h
        obtain ⟨rfl, rfl⟩ := h
        exact ⟨Post.refl hT, rfl⟩
    | inner a z =>
      simp only [goF] at h
      split at h
      · split at h
        · obtain ⟨⟨s2, r2⟩, h1, h2⟩ := bind_some h
          simp only [Option.some.injEq, Prod.mk.injEq] at h2
          obtain ⟨rfl, rfl⟩ := h2
          obtain ⟨p, n⟩ := ih _ _ _ _ h1 (hT.next.open hpos) InT.nil trivial
          refine ⟨p.cong (p.inv.want hl).close (fun q => by obtain ⟨a, b⟩ := open_ok q; exact ⟨a, b.symm⟩) fun q => ?_, ?_⟩
          · obtain ⟨a1, a2⟩ := want_ok (s := z) (st := s2) (l := l) q
            exact ⟨a1, a2, if_pos q⟩
          · show List.length _ = 1
            split
            · exact n
            · rfl
        · rename_i hf
          simp only [Option.some.injEq, Prod.mk.injEq] at h
          obtain ⟨rfl, rfl⟩ := h
          exact ⟨Post.bad (hT.next.open hpos) hf, rfl⟩
      · simp only [Option.some.injEq, Prod.mk.injEq] at h
        obtain ⟨rfl, rfl⟩ := h
        exact ⟨Post.bad (hT.fail (by decide) hpos) (fail_fe (by decide)), rfl⟩
    | args =>
      simp only [goF] at h
      split at h
      · split at h
        · obtain ⟨⟨s2, r2⟩, h1, h2⟩ := bind_some h
          simp only [Option.some.injEq, Prod.mk.injEq] at h2
          obtain ⟨rfl, rfl⟩ := h2
          have key : Post l [] (st.next.open (st.now l).pos) s2 r2 ∧ (s2.fe = 0 → r2.length ≤ 8) := by
            split at h1
            · simp only [Option.some.injEq, Prod.mk.injEq] at h1
              obtain ⟨rfl, rfl⟩ := h1
              exact ⟨Post.refl (hT.next.open hpos), fun _ => Nat.zero_le _⟩
            · exact ih _ _ _ _ h1 (hT.next.open hpos) InT.nil (Nat.zero_le _)
          obtain ⟨p, n⟩ := key
          refine ⟨p.cong (p.inv.want hl).close (fun q => by obtain ⟨a, b⟩ := open_ok q; exact ⟨a, b.symm⟩) fun q => ?_, fun q => ?_⟩
          · obtain ⟨a1, a2⟩ := want_ok (s := [41]) (st := s2) (l := l) q
            exact ⟨a1, a2, rfl⟩
          · exact n (want_ok (s := [41]) (st := s2) (l := l) q).1
        · rename_i hf
          simp only [Option.some.injEq, Prod.mk.injEq] at h
          obtain ⟨rfl, rfl⟩ := h
          exact ⟨Post.bad (hT.next.open hpos) hf, fun _ => Nat.zero_le _⟩
      · simp only [Option.some.injEq, Prod.mk.injEq] at h
        obtain ⟨rfl, rfl⟩ := h
        exact ⟨Post.bad (hT.fail (by decide) hpos) (fail_fe (by decide)), fun _ => Nat.zero_le _⟩
    | argsL out =>
      simp only [goF] at h
      have hm : out.length ≤ 8 := hm
      have t0 : TI l (if out.length = 8 then st.fail 3 (st.now l).pos else st) := by
        split
        · exact hT.fail (by decide) hpos
        · exact hT
      have f0 : (if out.length = 8 then st.fail 3 (st.now l).pos else st).fe = 0 → out.length < 8 ∧ (if out.length = 8 then st.fail 3 (st.now l).pos else st) = st := by
        split
        · exact fun q => absurd q (fail_fe (by decide))
        · exact fun _ => ⟨by omega, rfl⟩
      generalize (if out.length = 8 then st.fail 3 (st.now l).pos else st) = s0 at *
      obtain ⟨⟨s2, r2⟩, h1, h2⟩ := bind_some h
      obtain ⟨p, n⟩ := ih _ _ _ _ h1 t0 InT.nil trivial
      obtain ⟨x, rfl⟩ := one_of' n
      have p1 : Post l out st s2 (out ++ [x]) := ⟨p.inv, fun q => by
        obtain ⟨a0, new, a1, a2⟩ := p.ok q
        obtain ⟨b0, rfl⟩ := f0 a0
        exact ⟨a0, new, a1, fun a => by have := a2 a; simp only [Cmd.ins, List.count_nil] at this; rw [List.count_append]; omega⟩⟩
      have hlt : s2.fe = 0 → out.length < 8 := fun q => by
        obtain ⟨a0, _⟩ := p.ok q
        exact (f0 a0).1
      simp only at h2
      split at h2
      · rename_i hc
        have p2 : Post l out st s2.next (out ++ [x]) := p1.cong p1.inv.next (fun q => ⟨q, rfl⟩) fun q => ⟨q, rfl, rfl⟩
        obtain ⟨p3, n3⟩ := ih _ _ _ _ h2 p2.inv (p2.val hI) (by show (out ++ [x]).length ≤ 8; rw [List.length_append]; exact hlt hc.1)
        exact ⟨p2.trans p3, n3⟩
      · simp only [Option.some.injEq, Prod.mk.injEq] at h2
        obtain ⟨rfl, rfl⟩ := h2
        exact ⟨p1, fun q => by rw [List.length_append]; exact hlt q⟩
end Go.Proofs.Ytjgbofonigpjaaa.Ev
end
