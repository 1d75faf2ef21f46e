/- EvF3, EvF4, EvLaw, EvLim, EvSym, EvExt, EvLi, EvLj, EvHeap, EvDrw. -/
import Derived.Below
import Derived.Laws.Externs
import Derived.Lib.Bytealg
import Derived.KernelRfl
import Derived.Shelf.Strconv.Itoa3
import Derived.Test.YtblcomejcahkdaaDoorChecked
import Derived.Shelf.Strings.OnBuilder
import Derived.Test.YtblcomejcahkdaaDoorMc
set_option linter.unusedSimpArgs false
set_option linter.unusedVariables false
set_option linter.unusedSectionVars false
section
namespace Go.Proofs.YtblcomejcahkdaaDoor.Ev
open Go

/- balustrade/balustraderef05.Name -/
abbrev n_r05_Name : Nat := 48
def F_r05_Name_l0 : ICode :=
 (.seq
 (.seq
 (.region [⟨(some 4), (.val (.mov (.tmp 3))), none⟩,
 ⟨(some 5), (.val (.mov (.tmp 0))), none⟩,
 ⟨(some 6), (.val (.lenstr (.tmp 5))), none⟩,
 ⟨(some 7), (.val (.bin .lss (.tmp 4) (.tmp 6))), none⟩])
 (.cond (.tmp 7)
 .skip
 (.exit 0)))
 (.seq
 (.block 1
 (.seq
 (.region [⟨(some 10), (.val (.mov (.tmp 0))), none⟩,
 ⟨(some 11), (.val (.mov (.tmp 3))), none⟩,
 ⟨(some 12), (.val (.idxstr (.tmp 10) (.tmp 11))), none⟩,
 ⟨(some 13), (.call (.const (.func 58 [] [])) [(.tmp 12)]), none⟩,
 ⟨(some 14), (.val (.un .not (.tmp 13))), none⟩,
 ⟨(some 15), (.val (.mov (.tmp 14))), none⟩,
 ⟨(some 16), (.val (.mov (.tmp 3))), (some (15, true))⟩,
 ⟨(some 17), (.val (.eq false (.prim 1) (.tmp 16) (.const (.int .i64 0)))), (some (15, true))⟩,
 ⟨(some 18), (.val (.mov (.tmp 17))), (some (15, true))⟩,
 ⟨(some 19), (.val (.mov (.tmp 0))), (some (18, false))⟩,
 ⟨(some 20), (.val (.mov (.tmp 3))), (some (18, false))⟩,
 ⟨(some 21), (.val (.idxstr (.tmp 19) (.tmp 20))), (some (18, false))⟩,
 ⟨(some 22), (.call (.const (.func 59 [] [])) [(.tmp 21)]), (some (18, false))⟩,
 ⟨(some 23), (.val (.un .not (.tmp 22))), (some (18, false))⟩,
 ⟨(some 24), (.val (.pick (.tmp 18) (.const (.bool true)) (.tmp 23))), (some (15, true))⟩,
 ⟨(some 25), (.val (.pick (.tmp 15) (.tmp 24) (.const (.bool false)))), none⟩])
 (.cond (.tmp 25)
 (.seq
 (.region [⟨(some 2), (.val (.mov (.const (.bool false)))), none⟩])
 .ret)
 .skip)))
 (.region [⟨(some 8), (.val (.mov (.tmp 3))), none⟩,
 ⟨(some 9), (.val (.bin .add (.tmp 8) (.const (.int .i64 1)))), none⟩,
 ⟨(some 3), (.val (.mov (.tmp 9))), none⟩])))
def F_r05_Name : IFun :=
 ⟨39,
 (.seq
 (.region [⟨(some 2), (.val (.mov (.const (.bool false)))), none⟩])
 (.seq
 (.seq
 (.region [⟨(some 3), (.val (.mov (.const (.int .i64 0)))), none⟩])
 (.block 0
 (.loop F_r05_Name_l0)))
 (.seq
 (.region [⟨(some 26), (.val (.mov (.tmp 0))), none⟩,
 ⟨(some 27), (.val (.lenstr (.tmp 26))), none⟩,
 ⟨(some 28), (.val (.bin .gtr (.tmp 27) (.const (.int .i64 0)))), none⟩,
 ⟨(some 29), (.val (.mov (.tmp 28))), none⟩,
 ⟨(some 30), (.val (.mov (.tmp 0))), (some (29, true))⟩,
 ⟨(some 31), (.val (.lenstr (.tmp 30))), (some (29, true))⟩,
 ⟨(some 32), (.val (.bin .leq (.tmp 31) (.const (.int .i64 32)))), (some (29, true))⟩,
 ⟨(some 33), (.val (.pick (.tmp 29) (.tmp 32) (.const (.bool false)))), none⟩,
 ⟨(some 34), (.val (.mov (.tmp 33))), none⟩,
 ⟨(some 35), (.val (.mov (.tmp 0))), (some (34, true))⟩,
 ⟨(some 36), (.call (.const (.func 60 [] [])) [(.tmp 35)]), (some (34, true))⟩,
 ⟨(some 37), (.val (.un .not (.tmp 36))), (some (34, true))⟩,
 ⟨(some 38), (.val (.pick (.tmp 34) (.tmp 37) (.const (.bool false)))), none⟩,
 ⟨(some 2), (.val (.mov (.tmp 38))), none⟩])
 .ret))),
 [.tmp 2]⟩
theorem ok48 : cFun Tryd.prog G Tryd.f48 = some F_r05_Name := by kernel_rfl

/- balustrade/balustraderef06.exprs -/
abbrev n_r06_exprs : Nat := 49
def F_r06_exprs_l0 : ICode :=
 (.seq
 (.seq
 (.region [⟨(some 12), (.val (.mov (.tmp 7))), none⟩,
 ⟨(some 13), (.val (.mov (.tmp 2))), none⟩,
 ⟨(some 14), (.val (.bin .lss (.tmp 12) (.tmp 13))), none⟩])
 (.cond (.tmp 14)
 .skip
 (.exit 0)))
 (.seq
 (.block 1
 (.seq
 (.region [⟨(some 17), (.val (.mov (.tmp 0))), none⟩,
 ⟨(some 18), (.val (.mov (.tmp 1))), none⟩,
 ⟨(some 19), (.val (.mov (.tmp 7))), none⟩,
 ⟨(some 20), (.val (.iaddr 1 (.tmp 18) (.tmp 19))), none⟩,
 ⟨(some 21), (.val (.load none (.tmp 20))), none⟩,
 ⟨(some 22), (.val (.iaddr 5 (.tmp 17) (.tmp 21))), none⟩,
 ⟨(some 23), (.val (.faddr 0 (.tmp 22))), none⟩,
 ⟨(some 24), (.val (.load none (.tmp 23))), none⟩,
 ⟨(some 25), (.call (.const (.func 61 [] [])) [(.tmp 24)]), none⟩,
 ⟨(some 26), (.val (.un .not (.tmp 25))), none⟩])
 (.cond (.tmp 26)
 (.seq
 (.region [⟨(some 6), (.val (.mov (.const (.bool false)))), none⟩])
 .ret)
 .skip)))
 (.region [⟨(some 15), (.val (.mov (.tmp 7))), none⟩,
 ⟨(some 16), (.val (.bin .add (.tmp 15) (.const (.int .i64 1)))), none⟩,
 ⟨(some 7), (.val (.mov (.tmp 16))), none⟩])))
def F_r06_exprs : IFun :=
 ⟨27,
 (.seq
 (.region [⟨(some 6), (.val (.mov (.const (.bool false)))), none⟩])
 (.seq
 (.seq
 (.region [⟨(some 8), (.val (.mov (.tmp 1))), none⟩,
 ⟨(some 9), (.val (.len (.tmp 8))), none⟩,
 ⟨(some 10), (.val (.mov (.tmp 2))), none⟩,
 ⟨(some 11), (.val (.bin .lss (.tmp 9) (.tmp 10))), none⟩])
 (.cond (.tmp 11)
 (.seq
 (.region [⟨(some 6), (.val (.mov (.const (.bool false)))), none⟩])
 .ret)
 .skip))
 (.seq
 (.seq
 (.region [⟨(some 7), (.val (.mov (.const (.int .i64 0)))), none⟩])
 (.block 0
 (.loop F_r06_exprs_l0)))
 (.seq
 (.region [⟨(some 6), (.val (.mov (.const (.bool true)))), none⟩])
 .ret)))),
 [.tmp 6]⟩
theorem ok49 : cFun Tryd.prog G Tryd.f49 = some F_r06_exprs := by kernel_rfl

/- balustrade/balustraderef06.all -/
abbrev n_r06_all : Nat := 50
def F_r06_all_l0 : ICode :=
 (.seq
 (.seq
 (.region [⟨(some 10), (.val (.mov (.tmp 9))), none⟩,
 ⟨(some 11), (.val (.mov (.tmp 1))), none⟩,
 ⟨(some 12), (.val (.len (.tmp 11))), none⟩,
 ⟨(some 13), (.val (.bin .lss (.tmp 10) (.tmp 12))), none⟩])
 (.cond (.tmp 13)
 .skip
 (.exit 0)))
 (.seq
 (.block 1
 (.seq
 (.region [⟨(some 16), (.val (.mov (.tmp 0))), none⟩,
 ⟨(some 17), (.val (.mov (.tmp 1))), none⟩,
 ⟨(some 18), (.val (.mov (.tmp 9))), none⟩,
 ⟨(some 19), (.val (.iaddr 1 (.tmp 17) (.tmp 18))), none⟩,
 ⟨(some 20), (.val (.load none (.tmp 19))), none⟩,
 ⟨(some 21), (.val (.iaddr 5 (.tmp 16) (.tmp 20))), none⟩,
 ⟨(some 22), (.val (.faddr 0 (.tmp 21))), none⟩,
 ⟨(some 23), (.val (.load none (.tmp 22))), none⟩,
 ⟨(some 24), (.val (.mov (.tmp 2))), none⟩,
 ⟨(some 25), (.val (.eq true (.prim 1) (.tmp 23) (.tmp 24))), none⟩])
 (.cond (.tmp 25)
 (.seq
 (.region [⟨(some 8), (.val (.mov (.const (.bool false)))), none⟩])
 .ret)
 .skip)))
 (.region [⟨(some 14), (.val (.mov (.tmp 9))), none⟩,
 ⟨(some 15), (.val (.bin .add (.tmp 14) (.const (.int .i64 1)))), none⟩,
 ⟨(some 9), (.val (.mov (.tmp 15))), none⟩])))
def F_r06_all : IFun :=
 ⟨30,
 (.seq
 (.region [⟨(some 8), (.val (.mov (.const (.bool false)))), none⟩])
 (.seq
 (.seq
 (.region [⟨(some 9), (.val (.mov (.const (.int .i64 0)))), none⟩])
 (.block 0
 (.loop F_r06_all_l0)))
 (.seq
 (.region [⟨(some 26), (.val (.mov (.tmp 1))), none⟩,
 ⟨(some 27), (.val (.len (.tmp 26))), none⟩,
 ⟨(some 28), (.val (.mov (.tmp 3))), none⟩,
 ⟨(some 29), (.val (.bin .leq (.tmp 27) (.tmp 28))), none⟩,
 ⟨(some 8), (.val (.mov (.tmp 29))), none⟩])
 .ret))),
 [.tmp 8]⟩
theorem ok50 : cFun Tryd.prog G Tryd.f50 = some F_r06_all := by kernel_rfl

/- balustrade/balustraderef06.Stmt -/
abbrev n_r06_Stmt : Nat := 51
def F_r06_Stmt : IFun :=
 ⟨9,
 (.seq
 (.region [⟨(some 2), (.val (.mov (.const (.bool false)))), none⟩])
 (.seq
 (.region [⟨(some 3), (.val (.mov (.tmp 0))), none⟩,
 ⟨(some 4), (.val (.bin .geq (.tmp 3) (.const (.int .i64 12)))), none⟩,
 ⟨(some 5), (.val (.mov (.tmp 4))), none⟩,
 ⟨(some 6), (.val (.mov (.tmp 0))), (some (5, true))⟩,
 ⟨(some 7), (.val (.bin .leq (.tmp 6) (.const (.int .i64 22)))), (some (5, true))⟩,
 ⟨(some 8), (.val (.pick (.tmp 5) (.tmp 7) (.const (.bool false)))), none⟩,
 ⟨(some 2), (.val (.mov (.tmp 8))), none⟩])
 .ret)),
 [.tmp 2]⟩
theorem ok51 : cFun Tryd.prog G Tryd.f51 = some F_r06_Stmt := by kernel_rfl

/- balustrade/tree.name -/
abbrev n_tree_name : Nat := 52
def F_tree_name_l0 : ICode :=
 (.seq
 (.region [⟨(some 10), (.val (.bin .lss (.tmp 9) (.tmp 8))), none⟩])
 (.seq
 (.cond (.tmp 10)
 .skip
 (.exit 0))
 (.seq
 (.block 1
 (.seq
 (.region [⟨(some 11), (.val (.mov (.tmp 9))), none⟩,
 ⟨(some 12), (.val (.iaddr 1 (.tmp 7) (.tmp 9))), none⟩,
 ⟨(some 13), (.val (.load none (.tmp 12))), none⟩,
 ⟨(some 3), (.val (.mov (.tmp 11))), none⟩,
 ⟨(some 4), (.val (.mov (.tmp 13))), none⟩])
 (.seq
 (.region [⟨(some 14), (.val (.mov (.tmp 4))), none⟩,
 ⟨(some 15), (.val (.bin .or (.tmp 14) (.const (.int .u8 32)))), none⟩,
 ⟨(some 16), (.val (.bin .geq (.tmp 15) (.const (.int .u8 97)))), none⟩,
 ⟨(some 17), (.val (.mov (.tmp 16))), none⟩,
 ⟨(some 18), (.val (.mov (.tmp 4))), (some (17, true))⟩,
 ⟨(some 19), (.val (.bin .or (.tmp 18) (.const (.int .u8 32)))), (some (17, true))⟩,
 ⟨(some 20), (.val (.bin .leq (.tmp 19) (.const (.int .u8 122)))), (some (17, true))⟩,
 ⟨(some 21), (.val (.pick (.tmp 17) (.tmp 20) (.const (.bool false)))), none⟩,
 ⟨(some 22), (.val (.mov (.tmp 21))), none⟩,
 ⟨(some 23), (.val (.mov (.tmp 4))), (some (22, false))⟩,
 ⟨(some 24), (.val (.eq false (.prim 1) (.tmp 23) (.const (.int .u8 95)))), (some (22, false))⟩,
 ⟨(some 25), (.val (.pick (.tmp 22) (.const (.bool true)) (.tmp 24))), none⟩,
 ⟨(some 5), (.val (.mov (.tmp 25))), none⟩])
 (.seq
 (.region [⟨(some 26), (.val (.mov (.tmp 5))), none⟩,
 ⟨(some 27), (.val (.un .not (.tmp 26))), none⟩,
 ⟨(some 28), (.val (.mov (.tmp 27))), none⟩,
 ⟨(some 29), (.val (.mov (.tmp 3))), (some (28, true))⟩,
 ⟨(some 30), (.val (.eq false (.prim 1) (.tmp 29) (.const (.int .i64 0)))), (some (28, true))⟩,
 ⟨(some 31), (.val (.mov (.tmp 30))), (some (28, true))⟩,
 ⟨(some 32), (.val (.mov (.tmp 4))), (some (31, false))⟩,
 ⟨(some 33), (.val (.bin .lss (.tmp 32) (.const (.int .u8 48)))), (some (31, false))⟩,
 ⟨(some 34), (.val (.pick (.tmp 31) (.const (.bool true)) (.tmp 33))), (some (28, true))⟩,
 ⟨(some 35), (.val (.mov (.tmp 34))), (some (28, true))⟩,
 ⟨(some 36), (.val (.mov (.tmp 4))), (some (35, false))⟩,
 ⟨(some 37), (.val (.bin .gtr (.tmp 36) (.const (.int .u8 57)))), (some (35, false))⟩,
 ⟨(some 38), (.val (.pick (.tmp 35) (.const (.bool true)) (.tmp 37))), (some (28, true))⟩,
 ⟨(some 39), (.val (.pick (.tmp 28) (.tmp 38) (.const (.bool false)))), none⟩])
 (.cond (.tmp 39)
 (.seq
 (.region [⟨(some 2), (.val (.mov (.const (.bool false)))), none⟩])
 .ret)
 .skip)))))
 (.region [⟨(some 40), (.val (.bin .add (.tmp 9) (.const (.int .i64 1)))), none⟩,
 ⟨(some 9), (.val (.mov (.tmp 40))), none⟩]))))
def F_tree_name : IFun :=
 ⟨54,
 (.seq
 (.region [⟨(some 2), (.val (.mov (.const (.bool false)))), none⟩])
 (.seq
 (.seq
 (.region [⟨(some 6), (.val (.mov (.tmp 0))), none⟩,
 ⟨(some 7), (.val (.conv (.bytes 5) (.tmp 6))), none⟩,
 ⟨(some 8), (.val (.len (.tmp 7))), none⟩,
 ⟨(some 9), (.val (.mov (.const (.int .i64 0)))), none⟩])
 (.block 0
 (.loop F_tree_name_l0)))
 (.seq
 (.region [⟨(some 41), (.val (.mov (.tmp 0))), none⟩,
 ⟨(some 42), (.val (.eq true (.prim 2) (.tmp 41) (.const (.str [])))), none⟩,
 ⟨(some 43), (.val (.mov (.tmp 42))), none⟩,
 ⟨(some 44), (.val (.mov (.tmp 0))), (some (43, true))⟩,
 ⟨(some 45), (.val (.lenstr (.tmp 44))), (some (43, true))⟩,
 ⟨(some 46), (.val (.bin .leq (.tmp 45) (.const (.int .i64 32)))), (some (43, true))⟩,
 ⟨(some 47), (.val (.pick (.tmp 43) (.tmp 46) (.const (.bool false)))), none⟩,
 ⟨(some 48), (.val (.mov (.tmp 47))), none⟩,
 ⟨(some 49), (.val (.load none (.const (.ptr 1 0)))), (some (48, true))⟩,
 ⟨(some 50), (.val (.mov (.tmp 0))), (some (48, true))⟩,
 ⟨(some 51), (.call (.const (.func 62 [] [])) [(.tmp 49), (.tmp 50)]), (some (48, true))⟩,
 ⟨(some 52), (.val (.un .not (.tmp 51))), (some (48, true))⟩,
 ⟨(some 53), (.val (.pick (.tmp 48) (.tmp 52) (.const (.bool false)))), none⟩,
 ⟨(some 2), (.val (.mov (.tmp 53))), none⟩])
 .ret))),
 [.tmp 2]⟩
theorem ok52 : cFun Tryd.prog G Tryd.f52 = some F_tree_name := by kernel_rfl

/- balustrade/tree.is -/
abbrev n_tree_is : Nat := 53
def F_tree_is : IFun :=
 ⟨36,
 (.seq
 (.region [⟨(some 4), (.val (.mov (.const (.bool false)))), none⟩])
 (.seq
 (.seq
 (.region [⟨(some 5), (.val (.mov (.tmp 1))), none⟩])
 (.block 0
 (.seq
 (.region [⟨(some 7), (.val (.eq false (.prim 1) (.tmp 5) (.const (.int .i64 0)))), none⟩,
 ⟨(some 6), (.val (.mov (.tmp 7))), none⟩])
 (.cond (.tmp 6)
 (.seq
 (.region [⟨(some 8), (.val (.mov (.tmp 0))), none⟩,
 ⟨(some 9), (.val (.bin .geq (.tmp 8) (.const (.int .i64 1)))), none⟩,
 ⟨(some 10), (.val (.mov (.tmp 9))), none⟩,
 ⟨(some 11), (.val (.mov (.tmp 0))), (some (10, true))⟩,
 ⟨(some 12), (.val (.bin .leq (.tmp 11) (.const (.int .i64 11)))), (some (10, true))⟩,
 ⟨(some 13), (.val (.pick (.tmp 10) (.tmp 12) (.const (.bool false)))), none⟩,
 ⟨(some 4), (.val (.mov (.tmp 13))), none⟩])
 .ret)
 (.seq
 (.region [⟨(some 15), (.val (.eq false (.prim 1) (.tmp 5) (.const (.int .i64 1)))), none⟩,
 ⟨(some 14), (.val (.mov (.tmp 15))), none⟩])
 (.cond (.tmp 14)
 (.seq
 (.region [⟨(some 16), (.val (.mov (.tmp 0))), none⟩,
 ⟨(some 17), (.val (.bin .geq (.tmp 16) (.const (.int .i64 12)))), none⟩,
 ⟨(some 18), (.val (.mov (.tmp 17))), none⟩,
 ⟨(some 19), (.val (.mov (.tmp 0))), (some (18, true))⟩,
 ⟨(some 20), (.val (.bin .leq (.tmp 19) (.const (.int .i64 22)))), (some (18, true))⟩,
 ⟨(some 21), (.val (.pick (.tmp 18) (.tmp 20) (.const (.bool false)))), none⟩,
 ⟨(some 4), (.val (.mov (.tmp 21))), none⟩])
 .ret)
 (.seq
 (.region [⟨(some 23), (.val (.eq false (.prim 1) (.tmp 5) (.const (.int .i64 2)))), none⟩,
 ⟨(some 22), (.val (.mov (.tmp 23))), none⟩])
 (.cond (.tmp 22)
 (.seq
 (.region [⟨(some 24), (.val (.mov (.tmp 0))), none⟩,
 ⟨(some 25), (.val (.eq false (.prim 1) (.tmp 24) (.const (.int .i64 23)))), none⟩,
 ⟨(some 4), (.val (.mov (.tmp 25))), none⟩])
 .ret)
 (.seq
 (.region [⟨(some 27), (.val (.eq false (.prim 1) (.tmp 5) (.const (.int .i64 3)))), none⟩,
 ⟨(some 26), (.val (.mov (.tmp 27))), none⟩])
 (.cond (.tmp 26)
 (.seq
 (.region [⟨(some 28), (.val (.mov (.tmp 0))), none⟩,
 ⟨(some 29), (.val (.eq false (.prim 1) (.tmp 28) (.const (.int .i64 11)))), none⟩,
 ⟨(some 4), (.val (.mov (.tmp 29))), none⟩])
 .ret)
 (.seq
 (.region [⟨(some 31), (.val (.eq false (.prim 1) (.tmp 5) (.const (.int .i64 4)))), none⟩,
 ⟨(some 30), (.val (.mov (.tmp 31))), none⟩])
 (.cond (.tmp 30)
 (.seq
 (.region [⟨(some 32), (.val (.mov (.tmp 0))), none⟩,
 ⟨(some 33), (.val (.eq false (.prim 1) (.tmp 32) (.const (.int .i64 24)))), none⟩,
 ⟨(some 4), (.val (.mov (.tmp 33))), none⟩])
 .ret)
 .skip))))))))))))
 (.seq
 (.region [⟨(some 34), (.val (.mov (.tmp 0))), none⟩,
 ⟨(some 35), (.val (.eq false (.prim 1) (.tmp 34) (.const (.int .i64 25)))), none⟩,
 ⟨(some 4), (.val (.mov (.tmp 35))), none⟩])
 .ret))),
 [.tmp 4]⟩
theorem ok53 : cFun Tryd.prog G Tryd.f53 = some F_tree_is := by kernel_rfl

/- slices.Index[[]bool,bool] -/
abbrev n_slices_Index_bool : Nat := 54
def F_slices_Index_bool_l0 : ICode :=
 (.seq
 (.region [⟨(some 9), (.val (.bin .lss (.tmp 8) (.tmp 7))), none⟩])
 (.seq
 (.cond (.tmp 9)
 .skip
 (.exit 0))
 (.seq
 (.block 1
 (.seq
 (.region [⟨(some 10), (.val (.mov (.tmp 8))), none⟩,
 ⟨(some 5), (.val (.mov (.tmp 10))), none⟩])
 (.seq
 (.region [⟨(some 11), (.val (.mov (.tmp 1))), none⟩,
 ⟨(some 12), (.val (.mov (.tmp 0))), none⟩,
 ⟨(some 13), (.val (.mov (.tmp 5))), none⟩,
 ⟨(some 14), (.val (.iaddr 1 (.tmp 12) (.tmp 13))), none⟩,
 ⟨(some 15), (.val (.load none (.tmp 14))), none⟩,
 ⟨(some 16), (.val (.eq false (.prim 0) (.tmp 11) (.tmp 15))), none⟩])
 (.cond (.tmp 16)
 (.seq
 (.region [⟨(some 17), (.val (.mov (.tmp 5))), none⟩,
 ⟨(some 4), (.val (.mov (.tmp 17))), none⟩])
 .ret)
 .skip))))
 (.region [⟨(some 18), (.val (.bin .add (.tmp 8) (.const (.int .i64 1)))), none⟩,
 ⟨(some 8), (.val (.mov (.tmp 18))), none⟩]))))
def F_slices_Index_bool : IFun :=
 ⟨19,
 (.seq
 (.region [⟨(some 4), (.val (.mov (.const (.int .i64 0)))), none⟩])
 (.seq
 (.seq
 (.region [⟨(some 6), (.val (.mov (.tmp 0))), none⟩,
 ⟨(some 7), (.val (.len (.tmp 6))), none⟩,
 ⟨(some 8), (.val (.mov (.const (.int .i64 0)))), none⟩])
 (.block 0
 (.loop F_slices_Index_bool_l0)))
 (.seq
 (.region [⟨(some 4), (.val (.mov (.const (.int .i64 (-1))))), none⟩])
 .ret))),
 [.tmp 4]⟩
theorem ok54 : cFun Tryd.prog G Tryd.f54 = some F_slices_Index_bool := by kernel_rfl

/- internal/strconv.FormatInt -/
abbrev n_internal_strconv_FormatInt : Nat := 55
def F_internal_strconv_FormatInt : IFun :=
 ⟨54,
 (.seq
 (.region [⟨(some 4), (.val (.mov (.const (.str [])))), none⟩])
 (.seq
 (.seq
 (.region [⟨(some 10), (.val (.mov (.tmp 1))), none⟩,
 ⟨(some 11), (.val (.eq false (.prim 1) (.tmp 10) (.const (.int .i64 10)))), none⟩])
 (.cond (.tmp 11)
 (.seq
 (.seq
 (.region [⟨(some 12), (.val (.mov (.tmp 0))), none⟩,
 ⟨(some 13), (.val (.bin .leq (.const (.int .i64 0)) (.tmp 12))), none⟩,
 ⟨(some 14), (.val (.mov (.tmp 13))), none⟩,
 ⟨(some 15), (.val (.mov (.tmp 0))), (some (14, true))⟩,
 ⟨(some 16), (.val (.bin .lss (.tmp 15) (.const (.int .i64 100)))), (some (14, true))⟩,
 ⟨(some 17), (.val (.pick (.tmp 14) (.tmp 16) (.const (.bool false)))), none⟩])
 (.cond (.tmp 17)
 (.seq
 (.region [⟨(some 18), (.val (.mov (.tmp 0))), none⟩,
 ⟨(some 19), (.call (.const (.func 63 [] [])) [(.tmp 18)]), none⟩,
 ⟨(some 4), (.val (.mov (.tmp 19))), none⟩])
 .ret)
 .skip))
 (.seq
 (.region [⟨(some 5), (.val (.alloc 78 [(.int .u8 0), (.int .u8 0), (.int .u8 0), (.int .u8 0), (.int .u8 0), (.int .u8 0), (.int .u8 0), (.int .u8 0), (.int .u8 0), (.int .u8 0), (.int .u8 0), (.int .u8 0), (.int .u8 0), (.int .u8 0), (.int .u8 0), (.int .u8 0), (.int .u8 0), (.int .u8 0), (.int .u8 0), (.int .u8 0), (.int .u8 0), (.int .u8 0), (.int .u8 0), (.int .u8 0)])), none⟩])
 (.seq
 (.region [⟨(some 20), (.val (.mov (.tmp 0))), none⟩,
 ⟨(some 21), (.val (.conv (.int .u64) (.tmp 20))), none⟩,
 ⟨(some 6), (.val (.mov (.tmp 21))), none⟩])
 (.seq
 (.seq
 (.region [⟨(some 22), (.val (.mov (.tmp 0))), none⟩,
 ⟨(some 23), (.val (.bin .lss (.tmp 22) (.const (.int .i64 0)))), none⟩])
 (.cond (.tmp 23)
 (.region [⟨(some 24), (.val (.mov (.tmp 6))), none⟩,
 ⟨(some 25), (.val (.un .neg (.tmp 24))), none⟩,
 ⟨(some 6), (.val (.mov (.tmp 25))), none⟩])
 .skip))
 (.seq
 (.region [⟨(some 26), (.val (.mov (.tmp 6))), none⟩,
 ⟨(some 27), (.call (.const (.func 64 [] [])) [(.tmp 26)]), none⟩,
 ⟨(some 7), (.val (.mov (.tmp 27))), none⟩])
 (.seq
 (.region [⟨(some 28), (.val (.mov (.tmp 7))), none⟩,
 ⟨(some 29), (.val (.bin .add (.const (.int .i64 1)) (.tmp 28))), none⟩,
 ⟨(some 30), (.val (.slarr 24 1 (.tmp 5) (some (.const (.int .i64 1))) (some (.tmp 29)) none)), none⟩,
 ⟨(some 31), (.val (.mov (.tmp 6))), none⟩,
 ⟨(some 32), (.call (.const (.func 65 [] [])) [(.tmp 30), (.tmp 31)]), none⟩])
 (.seq
 (.seq
 (.region [⟨(some 33), (.val (.mov (.tmp 0))), none⟩,
 ⟨(some 34), (.val (.bin .lss (.tmp 33) (.const (.int .i64 0)))), none⟩])
 (.cond (.tmp 34)
 (.seq
 (.region [⟨(some 35), (.val (.iaddrArr 24 1 (.tmp 5) (.const (.int .i64 0)))), none⟩,
 ⟨none, (.val (.store 1 (.tmp 35) (.const (.int .u8 45)))), none⟩])
 (.seq
 (.region [⟨(some 36), (.val (.mov (.tmp 7))), none⟩,
 ⟨(some 37), (.val (.bin .add (.const (.int .i64 1)) (.tmp 36))), none⟩,
 ⟨(some 38), (.val (.slarr 24 1 (.tmp 5) none (some (.tmp 37)) none)), none⟩,
 ⟨(some 39), (.val (.conv .text (.tmp 38))), none⟩,
 ⟨(some 4), (.val (.mov (.tmp 39))), none⟩])
 .ret))
 .skip))
 (.seq
 (.region [⟨(some 40), (.val (.mov (.tmp 7))), none⟩,
 ⟨(some 41), (.val (.bin .add (.const (.int .i64 1)) (.tmp 40))), none⟩,
 ⟨(some 42), (.val (.slarr 24 1 (.tmp 5) (some (.const (.int .i64 1))) (some (.tmp 41)) none)), none⟩,
 ⟨(some 43), (.val (.conv .text (.tmp 42))), none⟩,
 ⟨(some 4), (.val (.mov (.tmp 43))), none⟩])
 .ret))))))))
 .skip))
 (.seq
 (.region [⟨(some 45), (.val (.mov (.tmp 0))), none⟩,
 ⟨(some 46), (.val (.conv (.int .u64) (.tmp 45))), none⟩,
 ⟨(some 47), (.val (.mov (.tmp 1))), none⟩,
 ⟨(some 48), (.val (.mov (.tmp 0))), none⟩,
 ⟨(some 49), (.val (.bin .lss (.tmp 48) (.const (.int .i64 0)))), none⟩,
 ⟨(some 50), (.call (.const (.func 66 [] [])) [(.const .nilslice), (.tmp 46), (.tmp 47), (.tmp 49), (.const (.bool false))]), none⟩,
 ⟨(some 44), (.val (.mov (.tmp 50))), none⟩,
 ⟨(some 51), (.val (.extract (.tmp 44) 0)), none⟩,
 ⟨(some 52), (.val (.extract (.tmp 44) 1)), none⟩,
 ⟨(some 8), (.val (.mov (.tmp 51))), none⟩,
 ⟨(some 9), (.val (.mov (.tmp 52))), none⟩])
 (.seq
 (.region [⟨(some 53), (.val (.mov (.tmp 9))), none⟩,
 ⟨(some 4), (.val (.mov (.tmp 53))), none⟩])
 .ret)))),
 [.tmp 4]⟩
theorem ok55 : cFun Tryd.prog G Tryd.f55 = some F_internal_strconv_FormatInt := by kernel_rfl

/- (*strings.Builder).grow -/
abbrev n_strings_Builder_grow : Nat := 57
def F_strings_Builder_grow : IFun :=
 ⟨30,
 (.seq
 (.draw [⟨(some 5), (.val (.mov (.tmp 0))), none⟩,
 ⟨(some 6), (.val (.nilck (.tmp 5))), none⟩,
 ⟨(some 7), (.val (.faddr 1 (.tmp 6))), none⟩,
 ⟨(some 8), (.val (.load none (.tmp 7))), none⟩,
 ⟨(some 9), (.val (.cap (.tmp 8))), none⟩,
 ⟨(some 10), (.val (.bin .mul (.const (.int .i64 2)) (.tmp 9))), none⟩,
 ⟨(some 11), (.val (.mov (.tmp 1))), none⟩,
 ⟨(some 12), (.val (.bin .add (.tmp 10) (.tmp 11))), none⟩,
 ⟨(some 13), (.call (.const (.func 68 [] [])) [(.tmp 12)]), none⟩,
 ⟨(some 14), (.val (.mov (.tmp 0))), none⟩,
 ⟨(some 15), (.val (.nilck (.tmp 14))), none⟩,
 ⟨(some 16), (.val (.faddr 1 (.tmp 15))), none⟩,
 ⟨(some 17), (.val (.load none (.tmp 16))), none⟩,
 ⟨(some 18), (.val (.len (.tmp 17))), none⟩,
 ⟨(some 19), (.val (.slsl 1 (.tmp 13) none (some (.tmp 18)) none)), none⟩,
 ⟨(some 4), (.val (.mov (.tmp 19))), none⟩] [(12, 8)])
 (.seq
 (.region [⟨(some 20), (.val (.mov (.tmp 4))), none⟩,
 ⟨(some 21), (.val (.mov (.tmp 0))), none⟩,
 ⟨(some 22), (.val (.nilck (.tmp 21))), none⟩,
 ⟨(some 23), (.val (.faddr 1 (.tmp 22))), none⟩,
 ⟨(some 24), (.val (.load none (.tmp 23))), none⟩,
 ⟨(some 25), (.val (.copy 1 (.tmp 20) (.tmp 24))), none⟩])
 (.region [⟨(some 26), (.val (.mov (.tmp 0))), none⟩,
 ⟨(some 27), (.val (.mov (.tmp 4))), none⟩,
 ⟨(some 28), (.val (.nilck (.tmp 26))), none⟩,
 ⟨(some 29), (.val (.faddr 1 (.tmp 28))), none⟩,
 ⟨none, (.val (.store 1 (.tmp 29) (.tmp 27))), none⟩]))),
 []⟩
theorem ok57 : cFun Tryd.prog G Tryd.f57 = some F_strings_Builder_grow := by kernel_rfl

/- balustrade/balustraderef05.Letter -/
abbrev n_r05_Letter : Nat := 58
def F_r05_Letter : IFun :=
 ⟨21,
 (.seq
 (.region [⟨(some 2), (.val (.mov (.const (.bool false)))), none⟩])
 (.seq
 (.region [⟨(some 3), (.val (.mov (.tmp 0))), none⟩,
 ⟨(some 4), (.val (.bin .geq (.tmp 3) (.const (.int .u8 97)))), none⟩,
 ⟨(some 5), (.val (.mov (.tmp 4))), none⟩,
 ⟨(some 6), (.val (.mov (.tmp 0))), (some (5, true))⟩,
 ⟨(some 7), (.val (.bin .leq (.tmp 6) (.const (.int .u8 122)))), (some (5, true))⟩,
 ⟨(some 8), (.val (.pick (.tmp 5) (.tmp 7) (.const (.bool false)))), none⟩,
 ⟨(some 9), (.val (.mov (.tmp 8))), none⟩,
 ⟨(some 10), (.val (.mov (.tmp 0))), (some (9, false))⟩,
 ⟨(some 11), (.val (.bin .geq (.tmp 10) (.const (.int .u8 65)))), (some (9, false))⟩,
 ⟨(some 12), (.val (.mov (.tmp 11))), (some (9, false))⟩,
 ⟨(some 13), (.val (.mov (.tmp 0))), (some (12, true))⟩,
 ⟨(some 14), (.val (.bin .leq (.tmp 13) (.const (.int .u8 90)))), (some (12, true))⟩,
 ⟨(some 15), (.val (.pick (.tmp 12) (.tmp 14) (.const (.bool false)))), (some (9, false))⟩,
 ⟨(some 16), (.val (.pick (.tmp 9) (.const (.bool true)) (.tmp 15))), none⟩,
 ⟨(some 17), (.val (.mov (.tmp 16))), none⟩,
 ⟨(some 18), (.val (.mov (.tmp 0))), (some (17, false))⟩,
 ⟨(some 19), (.val (.eq false (.prim 1) (.tmp 18) (.const (.int .u8 95)))), (some (17, false))⟩,
 ⟨(some 20), (.val (.pick (.tmp 17) (.const (.bool true)) (.tmp 19))), none⟩,
 ⟨(some 2), (.val (.mov (.tmp 20))), none⟩])
 .ret)),
 [.tmp 2]⟩
theorem ok58 : cFun Tryd.prog G Tryd.f58 = some F_r05_Letter := by kernel_rfl

/- balustrade/balustraderef05.Digit -/
abbrev n_r05_Digit : Nat := 59
def F_r05_Digit : IFun :=
 ⟨9,
 (.seq
 (.region [⟨(some 2), (.val (.mov (.const (.bool false)))), none⟩])
 (.seq
 (.region [⟨(some 3), (.val (.mov (.tmp 0))), none⟩,
 ⟨(some 4), (.val (.bin .geq (.tmp 3) (.const (.int .u8 48)))), none⟩,
 ⟨(some 5), (.val (.mov (.tmp 4))), none⟩,
 ⟨(some 6), (.val (.mov (.tmp 0))), (some (5, true))⟩,
 ⟨(some 7), (.val (.bin .leq (.tmp 6) (.const (.int .u8 57)))), (some (5, true))⟩,
 ⟨(some 8), (.val (.pick (.tmp 5) (.tmp 7) (.const (.bool false)))), none⟩,
 ⟨(some 2), (.val (.mov (.tmp 8))), none⟩])
 .ret)),
 [.tmp 2]⟩
theorem ok59 : cFun Tryd.prog G Tryd.f59 = some F_r05_Digit := by kernel_rfl

/- balustrade/balustraderef05.Word -/
abbrev n_r05_Word : Nat := 60
def F_r05_Word_l0 : ICode :=
 (.seq
 (.seq
 (.region [⟨(some 6), (.val (.mov (.tmp 4))), none⟩,
 ⟨(some 7), (.val (.mov (.tmp 3))), none⟩,
 ⟨(some 8), (.val (.len (.tmp 7))), none⟩,
 ⟨(some 9), (.val (.bin .lss (.tmp 6) (.tmp 8))), none⟩])
 (.cond (.tmp 9)
 .skip
 (.exit 0)))
 (.seq
 (.block 1
 (.seq
 (.region [⟨(some 12), (.val (.mov (.tmp 3))), none⟩,
 ⟨(some 13), (.val (.mov (.tmp 4))), none⟩,
 ⟨(some 14), (.val (.iaddr 1 (.tmp 12) (.tmp 13))), none⟩,
 ⟨(some 15), (.val (.load none (.tmp 14))), none⟩,
 ⟨(some 16), (.val (.mov (.tmp 0))), none⟩,
 ⟨(some 17), (.val (.eq false (.prim 2) (.tmp 15) (.tmp 16))), none⟩])
 (.cond (.tmp 17)
 (.seq
 (.region [⟨(some 2), (.val (.mov (.const (.bool true)))), none⟩])
 .ret)
 .skip)))
 (.region [⟨(some 10), (.val (.mov (.tmp 4))), none⟩,
 ⟨(some 11), (.val (.bin .add (.tmp 10) (.const (.int .i64 1)))), none⟩,
 ⟨(some 4), (.val (.mov (.tmp 11))), none⟩])))
def F_r05_Word : IFun :=
 ⟨18,
 (.seq
 (.region [⟨(some 2), (.val (.mov (.const (.bool false)))), none⟩])
 (.seq
 (.region [⟨(some 5), (.call (.const (.func 69 [] [])) []), none⟩,
 ⟨(some 3), (.val (.mov (.tmp 5))), none⟩])
 (.seq
 (.seq
 (.region [⟨(some 4), (.val (.mov (.const (.int .i64 0)))), none⟩])
 (.block 0
 (.loop F_r05_Word_l0)))
 (.seq
 (.region [⟨(some 2), (.val (.mov (.const (.bool false)))), none⟩])
 .ret)))),
 [.tmp 2]⟩
theorem ok60 : cFun Tryd.prog G Tryd.f60 = some F_r05_Word := by kernel_rfl

/- balustrade/balustraderef06.Expr -/
abbrev n_r06_Expr : Nat := 61
def F_r06_Expr : IFun :=
 ⟨9,
 (.seq
 (.region [⟨(some 2), (.val (.mov (.const (.bool false)))), none⟩])
 (.seq
 (.region [⟨(some 3), (.val (.mov (.tmp 0))), none⟩,
 ⟨(some 4), (.val (.bin .geq (.tmp 3) (.const (.int .i64 1)))), none⟩,
 ⟨(some 5), (.val (.mov (.tmp 4))), none⟩,
 ⟨(some 6), (.val (.mov (.tmp 0))), (some (5, true))⟩,
 ⟨(some 7), (.val (.bin .leq (.tmp 6) (.const (.int .i64 11)))), (some (5, true))⟩,
 ⟨(some 8), (.val (.pick (.tmp 5) (.tmp 7) (.const (.bool false)))), none⟩,
 ⟨(some 2), (.val (.mov (.tmp 8))), none⟩])
 .ret)),
 [.tmp 2]⟩
theorem ok61 : cFun Tryd.prog G Tryd.f61 = some F_r06_Expr := by kernel_rfl

/- slices.Contains[[]string,string] -/
abbrev n_slices_Contains_string : Nat := 62
def F_slices_Contains_string : IFun :=
 ⟨9,
 (.seq
 (.region [⟨(some 4), (.val (.mov (.const (.bool false)))), none⟩])
 (.seq
 (.region [⟨(some 5), (.val (.mov (.tmp 0))), none⟩,
 ⟨(some 6), (.val (.mov (.tmp 1))), none⟩,
 ⟨(some 7), (.call (.const (.func 41 [] [])) [(.tmp 5), (.tmp 6)]), none⟩,
 ⟨(some 8), (.val (.bin .geq (.tmp 7) (.const (.int .i64 0)))), none⟩,
 ⟨(some 4), (.val (.mov (.tmp 8))), none⟩])
 .ret)),
 [.tmp 4]⟩
theorem ok62 : cFun Tryd.prog G Tryd.f62 = some F_slices_Contains_string := by kernel_rfl

/- internal/strconv.small -/
abbrev n_internal_strconv_small : Nat := 63
def F_internal_strconv_small : IFun :=
 ⟨15,
 (.seq
 (.region [⟨(some 2), (.val (.mov (.const (.str [])))), none⟩])
 (.seq
 (.seq
 (.region [⟨(some 3), (.val (.mov (.tmp 0))), none⟩,
 ⟨(some 4), (.val (.bin .lss (.tmp 3) (.const (.int .i64 10)))), none⟩])
 (.cond (.tmp 4)
 (.seq
 (.region [⟨(some 5), (.val (.mov (.tmp 0))), none⟩,
 ⟨(some 6), (.val (.mov (.tmp 0))), none⟩,
 ⟨(some 7), (.val (.bin .add (.tmp 6) (.const (.int .i64 1)))), none⟩,
 ⟨(some 8), (.val (.slstr (.const (.str [48, 49, 50, 51, 52, 53, 54, 55, 56, 57, 97, 98, 99, 100, 101, 102, 103, 104, 105, 106, 107, 108, 109, 110, 111, 112, 113, 114, 115, 116, 117, 118, 119, 120, 121, 122])) (some (.tmp 5)) (some (.tmp 7)))), none⟩,
 ⟨(some 2), (.val (.mov (.tmp 8))), none⟩])
 .ret)
 .skip))
 (.seq
 (.region [⟨(some 9), (.val (.mov (.tmp 0))), none⟩,
 ⟨(some 10), (.val (.bin .mul (.tmp 9) (.const (.int .i64 2)))), none⟩,
 ⟨(some 11), (.val (.mov (.tmp 0))), none⟩,
 ⟨(some 12), (.val (.bin .mul (.tmp 11) (.const (.int .i64 2)))), none⟩,
 ⟨(some 13), (.val (.bin .add (.tmp 12) (.const (.int .i64 2)))), none⟩,
 ⟨(some 14), (.val (.slstr (.const (.str [48, 48, 48, 49, 48, 50, 48, 51, 48, 52, 48, 53, 48, 54, 48, 55, 48, 56, 48, 57, 49, 48, 49, 49, 49, 50, 49, 51, 49, 52, 49, 53, 49, 54, 49, 55, 49, 56, 49, 57, 50, 48, 50, 49, 50, 50, 50, 51, 50, 52, 50, 53, 50, 54, 50, 55, 50, 56, 50, 57, 51, 48, 51, 49, 51, 50, 51, 51, 51, 52, 51, 53, 51, 54, 51, 55, 51, 56, 51, 57, 52, 48, 52, 49, 52, 50, 52, 51, 52, 52, 52, 53, 52, 54, 52, 55, 52, 56, 52, 57, 53, 48, 53, 49, 53, 50, 53, 51, 53, 52, 53, 53, 53, 54, 53, 55, 53, 56, 53, 57, 54, 48, 54, 49, 54, 50, 54, 51, 54, 52, 54, 53, 54, 54, 54, 55, 54, 56, 54, 57, 55, 48, 55, 49, 55, 50, 55, 51, 55, 52, 55, 53, 55, 54, 55, 55, 55, 56, 55, 57, 56, 48, 56, 49, 56, 50, 56, 51, 56, 52, 56, 53, 56, 54, 56, 55, 56, 56, 56, 57, 57, 48, 57, 49, 57, 50, 57, 51, 57, 52, 57, 53, 57, 54, 57, 55, 57, 56, 57, 57])) (some (.tmp 10)) (some (.tmp 13)))), none⟩,
 ⟨(some 2), (.val (.mov (.tmp 14))), none⟩])
 .ret))),
 [.tmp 2]⟩
theorem ok63 : cFun Tryd.prog G Tryd.f63 = some F_internal_strconv_small := by kernel_rfl

/- internal/strconv.numDigits -/
abbrev n_internal_strconv_numDigits : Nat := 64
def F_internal_strconv_numDigits : IFun :=
 ⟨15,
 (.seq
 (.region [⟨(some 2), (.val (.mov (.const (.int .i64 0)))), none⟩])
 (.seq
 (.region [⟨(some 4), (.val (.mov (.tmp 0))), none⟩,
 ⟨(some 5), (.call (.const (.func 71 [] [])) [(.tmp 4)]), none⟩,
 ⟨(some 6), (.call (.const (.func 70 [] [])) [(.tmp 5)]), none⟩,
 ⟨(some 3), (.val (.mov (.tmp 6))), none⟩])
 (.seq
 (.region [⟨(some 7), (.val (.mov (.tmp 3))), none⟩,
 ⟨(some 8), (.val (.mov (.tmp 0))), none⟩,
 ⟨(some 9), (.val (.mov (.tmp 3))), none⟩,
 ⟨(some 10), (.val (.iaddrArr 20 1 (.const (.ptr 2 0)) (.tmp 9))), none⟩,
 ⟨(some 11), (.val (.load none (.tmp 10))), none⟩,
 ⟨(some 12), (.val (.bin .geq (.tmp 8) (.tmp 11))), none⟩,
 ⟨(some 13), (.call (.const (.func 72 [] [])) [(.tmp 12)]), none⟩,
 ⟨(some 14), (.val (.bin .add (.tmp 7) (.tmp 13))), none⟩,
 ⟨(some 2), (.val (.mov (.tmp 14))), none⟩])
 .ret))),
 [.tmp 2]⟩
theorem ok64 : cFun Tryd.prog G Tryd.f64 = some F_internal_strconv_numDigits := by kernel_rfl

/- internal/strconv.formatBase10 -/
abbrev n_internal_strconv_formatBase10 : Nat := 65
def F_internal_strconv_formatBase10_l0 : ICode :=
 (.seq
 (.seq
 (.region [⟨(some 19), (.val (.mov (.tmp 4))), none⟩,
 ⟨(some 20), (.val (.bin .geq (.tmp 19) (.const (.int .i64 8)))), none⟩])
 (.cond (.tmp 20)
 .skip
 (.exit 0)))
 (.block 1
 (.seq
 (.region [⟨(some 21), (.val (.mov (.tmp 1))), none⟩,
 ⟨(some 22), (.val (.bin .rem (.tmp 21) (.const (.int .u64 100000000)))), none⟩,
 ⟨(some 23), (.val (.conv (.int .u32) (.tmp 22))), none⟩,
 ⟨(some 5), (.val (.mov (.tmp 23))), none⟩])
 (.seq
 (.region [⟨(some 24), (.val (.mov (.tmp 1))), none⟩,
 ⟨(some 25), (.val (.bin .quo (.tmp 24) (.const (.int .u64 100000000)))), none⟩,
 ⟨(some 1), (.val (.mov (.tmp 25))), none⟩])
 (.seq
 (.region [⟨(some 26), (.val (.mov (.tmp 5))), none⟩,
 ⟨(some 27), (.val (.bin .quo (.tmp 26) (.const (.int .u32 10000)))), none⟩,
 ⟨(some 28), (.val (.mov (.tmp 5))), none⟩,
 ⟨(some 29), (.val (.bin .rem (.tmp 28) (.const (.int .u32 10000)))), none⟩,
 ⟨(some 6), (.val (.mov (.tmp 27))), none⟩,
 ⟨(some 7), (.val (.mov (.tmp 29))), none⟩])
 (.seq
 (.region [⟨(some 30), (.val (.mov (.tmp 7))), none⟩,
 ⟨(some 31), (.val (.bin .quo (.tmp 30) (.const (.int .u32 100)))), none⟩,
 ⟨(some 32), (.val (.bin .mul (.tmp 31) (.const (.int .u32 2)))), none⟩,
 ⟨(some 33), (.val (.mov (.tmp 7))), none⟩,
 ⟨(some 34), (.val (.bin .rem (.tmp 33) (.const (.int .u32 100)))), none⟩,
 ⟨(some 35), (.val (.bin .mul (.tmp 34) (.const (.int .u32 2)))), none⟩,
 ⟨(some 8), (.val (.mov (.tmp 32))), none⟩,
 ⟨(some 9), (.val (.mov (.tmp 35))), none⟩])
 (.seq
 (.region [⟨(some 36), (.val (.mov (.tmp 6))), none⟩,
 ⟨(some 37), (.val (.bin .quo (.tmp 36) (.const (.int .u32 100)))), none⟩,
 ⟨(some 38), (.val (.bin .mul (.tmp 37) (.const (.int .u32 2)))), none⟩,
 ⟨(some 39), (.val (.mov (.tmp 6))), none⟩,
 ⟨(some 40), (.val (.bin .rem (.tmp 39) (.const (.int .u32 100)))), none⟩,
 ⟨(some 41), (.val (.bin .mul (.tmp 40) (.const (.int .u32 2)))), none⟩,
 ⟨(some 10), (.val (.mov (.tmp 38))), none⟩,
 ⟨(some 11), (.val (.mov (.tmp 41))), none⟩])
 (.seq
 (.draw [⟨(some 42), (.val (.mov (.tmp 0))), none⟩,
 ⟨(some 43), (.val (.mov (.tmp 4))), none⟩,
 ⟨(some 44), (.val (.bin .sub (.tmp 43) (.const (.int .i64 1)))), none⟩,
 ⟨(some 45), (.val (.mov (.tmp 0))), none⟩,
 ⟨(some 46), (.val (.mov (.tmp 4))), none⟩,
 ⟨(some 47), (.val (.bin .sub (.tmp 46) (.const (.int .i64 2)))), none⟩,
 ⟨(some 48), (.val (.mov (.tmp 9))), none⟩,
 ⟨(some 49), (.val (.bin .add (.tmp 48) (.const (.int .u32 1)))), none⟩,
 ⟨(some 50), (.val (.idxstr (.const (.str [48, 48, 48, 49, 48, 50, 48, 51, 48, 52, 48, 53, 48, 54, 48, 55, 48, 56, 48, 57, 49, 48, 49, 49, 49, 50, 49, 51, 49, 52, 49, 53, 49, 54, 49, 55, 49, 56, 49, 57, 50, 48, 50, 49, 50, 50, 50, 51, 50, 52, 50, 53, 50, 54, 50, 55, 50, 56, 50, 57, 51, 48, 51, 49, 51, 50, 51, 51, 51, 52, 51, 53, 51, 54, 51, 55, 51, 56, 51, 57, 52, 48, 52, 49, 52, 50, 52, 51, 52, 52, 52, 53, 52, 54, 52, 55, 52, 56, 52, 57, 53, 48, 53, 49, 53, 50, 53, 51, 53, 52, 53, 53, 53, 54, 53, 55, 53, 56, 53, 57, 54, 48, 54, 49, 54, 50, 54, 51, 54, 52, 54, 53, 54, 54, 54, 55, 54, 56, 54, 57, 55, 48, 55, 49, 55, 50, 55, 51, 55, 52, 55, 53, 55, 54, 55, 55, 55, 56, 55, 57, 56, 48, 56, 49, 56, 50, 56, 51, 56, 52, 56, 53, 56, 54, 56, 55, 56, 56, 56, 57, 57, 48, 57, 49, 57, 50, 57, 51, 57, 52, 57, 53, 57, 54, 57, 55, 57, 56, 57, 57])) (.tmp 49))), none⟩,
 ⟨(some 51), (.val (.mov (.tmp 9))), none⟩,
 ⟨(some 52), (.val (.idxstr (.const (.str [48, 48, 48, 49, 48, 50, 48, 51, 48, 52, 48, 53, 48, 54, 48, 55, 48, 56, 48, 57, 49, 48, 49, 49, 49, 50, 49, 51, 49, 52, 49, 53, 49, 54, 49, 55, 49, 56, 49, 57, 50, 48, 50, 49, 50, 50, 50, 51, 50, 52, 50, 53, 50, 54, 50, 55, 50, 56, 50, 57, 51, 48, 51, 49, 51, 50, 51, 51, 51, 52, 51, 53, 51, 54, 51, 55, 51, 56, 51, 57, 52, 48, 52, 49, 52, 50, 52, 51, 52, 52, 52, 53, 52, 54, 52, 55, 52, 56, 52, 57, 53, 48, 53, 49, 53, 50, 53, 51, 53, 52, 53, 53, 53, 54, 53, 55, 53, 56, 53, 57, 54, 48, 54, 49, 54, 50, 54, 51, 54, 52, 54, 53, 54, 54, 54, 55, 54, 56, 54, 57, 55, 48, 55, 49, 55, 50, 55, 51, 55, 52, 55, 53, 55, 54, 55, 55, 55, 56, 55, 57, 56, 48, 56, 49, 56, 50, 56, 51, 56, 52, 56, 53, 56, 54, 56, 55, 56, 56, 56, 57, 57, 48, 57, 49, 57, 50, 57, 51, 57, 52, 57, 53, 57, 54, 57, 55, 57, 56, 57, 57])) (.tmp 51))), none⟩,
 ⟨(some 53), (.val (.iaddr 1 (.tmp 42) (.tmp 44))), none⟩,
 ⟨none, (.val (.store 1 (.tmp 53) (.tmp 50))), none⟩,
 ⟨(some 54), (.val (.iaddr 1 (.tmp 45) (.tmp 47))), none⟩,
 ⟨none, (.val (.store 1 (.tmp 54) (.tmp 52))), none⟩] [])
 (.seq
 (.draw [⟨(some 55), (.val (.mov (.tmp 0))), none⟩,
 ⟨(some 56), (.val (.mov (.tmp 4))), none⟩,
 ⟨(some 57), (.val (.bin .sub (.tmp 56) (.const (.int .i64 3)))), none⟩,
 ⟨(some 58), (.val (.mov (.tmp 0))), none⟩,
 ⟨(some 59), (.val (.mov (.tmp 4))), none⟩,
 ⟨(some 60), (.val (.bin .sub (.tmp 59) (.const (.int .i64 4)))), none⟩,
 ⟨(some 61), (.val (.mov (.tmp 8))), none⟩,
 ⟨(some 62), (.val (.bin .add (.tmp 61) (.const (.int .u32 1)))), none⟩,
 ⟨(some 63), (.val (.idxstr (.const (.str [48, 48, 48, 49, 48, 50, 48, 51, 48, 52, 48, 53, 48, 54, 48, 55, 48, 56, 48, 57, 49, 48, 49, 49, 49, 50, 49, 51, 49, 52, 49, 53, 49, 54, 49, 55, 49, 56, 49, 57, 50, 48, 50, 49, 50, 50, 50, 51, 50, 52, 50, 53, 50, 54, 50, 55, 50, 56, 50, 57, 51, 48, 51, 49, 51, 50, 51, 51, 51, 52, 51, 53, 51, 54, 51, 55, 51, 56, 51, 57, 52, 48, 52, 49, 52, 50, 52, 51, 52, 52, 52, 53, 52, 54, 52, 55, 52, 56, 52, 57, 53, 48, 53, 49, 53, 50, 53, 51, 53, 52, 53, 53, 53, 54, 53, 55, 53, 56, 53, 57, 54, 48, 54, 49, 54, 50, 54, 51, 54, 52, 54, 53, 54, 54, 54, 55, 54, 56, 54, 57, 55, 48, 55, 49, 55, 50, 55, 51, 55, 52, 55, 53, 55, 54, 55, 55, 55, 56, 55, 57, 56, 48, 56, 49, 56, 50, 56, 51, 56, 52, 56, 53, 56, 54, 56, 55, 56, 56, 56, 57, 57, 48, 57, 49, 57, 50, 57, 51, 57, 52, 57, 53, 57, 54, 57, 55, 57, 56, 57, 57])) (.tmp 62))), none⟩,
 ⟨(some 64), (.val (.mov (.tmp 8))), none⟩,
 ⟨(some 65), (.val (.idxstr (.const (.str [48, 48, 48, 49, 48, 50, 48, 51, 48, 52, 48, 53, 48, 54, 48, 55, 48, 56, 48, 57, 49, 48, 49, 49, 49, 50, 49, 51, 49, 52, 49, 53, 49, 54, 49, 55, 49, 56, 49, 57, 50, 48, 50, 49, 50, 50, 50, 51, 50, 52, 50, 53, 50, 54, 50, 55, 50, 56, 50, 57, 51, 48, 51, 49, 51, 50, 51, 51, 51, 52, 51, 53, 51, 54, 51, 55, 51, 56, 51, 57, 52, 48, 52, 49, 52, 50, 52, 51, 52, 52, 52, 53, 52, 54, 52, 55, 52, 56, 52, 57, 53, 48, 53, 49, 53, 50, 53, 51, 53, 52, 53, 53, 53, 54, 53, 55, 53, 56, 53, 57, 54, 48, 54, 49, 54, 50, 54, 51, 54, 52, 54, 53, 54, 54, 54, 55, 54, 56, 54, 57, 55, 48, 55, 49, 55, 50, 55, 51, 55, 52, 55, 53, 55, 54, 55, 55, 55, 56, 55, 57, 56, 48, 56, 49, 56, 50, 56, 51, 56, 52, 56, 53, 56, 54, 56, 55, 56, 56, 56, 57, 57, 48, 57, 49, 57, 50, 57, 51, 57, 52, 57, 53, 57, 54, 57, 55, 57, 56, 57, 57])) (.tmp 64))), none⟩,
 ⟨(some 66), (.val (.iaddr 1 (.tmp 55) (.tmp 57))), none⟩,
 ⟨none, (.val (.store 1 (.tmp 66) (.tmp 63))), none⟩,
 ⟨(some 67), (.val (.iaddr 1 (.tmp 58) (.tmp 60))), none⟩,
 ⟨none, (.val (.store 1 (.tmp 67) (.tmp 65))), none⟩] [])
 (.seq
 (.draw [⟨(some 68), (.val (.mov (.tmp 0))), none⟩,
 ⟨(some 69), (.val (.mov (.tmp 4))), none⟩,
 ⟨(some 70), (.val (.bin .sub (.tmp 69) (.const (.int .i64 5)))), none⟩,
 ⟨(some 71), (.val (.mov (.tmp 0))), none⟩,
 ⟨(some 72), (.val (.mov (.tmp 4))), none⟩,
 ⟨(some 73), (.val (.bin .sub (.tmp 72) (.const (.int .i64 6)))), none⟩,
 ⟨(some 74), (.val (.mov (.tmp 11))), none⟩,
 ⟨(some 75), (.val (.bin .add (.tmp 74) (.const (.int .u32 1)))), none⟩,
 ⟨(some 76), (.val (.idxstr (.const (.str [48, 48, 48, 49, 48, 50, 48, 51, 48, 52, 48, 53, 48, 54, 48, 55, 48, 56, 48, 57, 49, 48, 49, 49, 49, 50, 49, 51, 49, 52, 49, 53, 49, 54, 49, 55, 49, 56, 49, 57, 50, 48, 50, 49, 50, 50, 50, 51, 50, 52, 50, 53, 50, 54, 50, 55, 50, 56, 50, 57, 51, 48, 51, 49, 51, 50, 51, 51, 51, 52, 51, 53, 51, 54, 51, 55, 51, 56, 51, 57, 52, 48, 52, 49, 52, 50, 52, 51, 52, 52, 52, 53, 52, 54, 52, 55, 52, 56, 52, 57, 53, 48, 53, 49, 53, 50, 53, 51, 53, 52, 53, 53, 53, 54, 53, 55, 53, 56, 53, 57, 54, 48, 54, 49, 54, 50, 54, 51, 54, 52, 54, 53, 54, 54, 54, 55, 54, 56, 54, 57, 55, 48, 55, 49, 55, 50, 55, 51, 55, 52, 55, 53, 55, 54, 55, 55, 55, 56, 55, 57, 56, 48, 56, 49, 56, 50, 56, 51, 56, 52, 56, 53, 56, 54, 56, 55, 56, 56, 56, 57, 57, 48, 57, 49, 57, 50, 57, 51, 57, 52, 57, 53, 57, 54, 57, 55, 57, 56, 57, 57])) (.tmp 75))), none⟩,
 ⟨(some 77), (.val (.mov (.tmp 11))), none⟩,
 ⟨(some 78), (.val (.idxstr (.const (.str [48, 48, 48, 49, 48, 50, 48, 51, 48, 52, 48, 53, 48, 54, 48, 55, 48, 56, 48, 57, 49, 48, 49, 49, 49, 50, 49, 51, 49, 52, 49, 53, 49, 54, 49, 55, 49, 56, 49, 57, 50, 48, 50, 49, 50, 50, 50, 51, 50, 52, 50, 53, 50, 54, 50, 55, 50, 56, 50, 57, 51, 48, 51, 49, 51, 50, 51, 51, 51, 52, 51, 53, 51, 54, 51, 55, 51, 56, 51, 57, 52, 48, 52, 49, 52, 50, 52, 51, 52, 52, 52, 53, 52, 54, 52, 55, 52, 56, 52, 57, 53, 48, 53, 49, 53, 50, 53, 51, 53, 52, 53, 53, 53, 54, 53, 55, 53, 56, 53, 57, 54, 48, 54, 49, 54, 50, 54, 51, 54, 52, 54, 53, 54, 54, 54, 55, 54, 56, 54, 57, 55, 48, 55, 49, 55, 50, 55, 51, 55, 52, 55, 53, 55, 54, 55, 55, 55, 56, 55, 57, 56, 48, 56, 49, 56, 50, 56, 51, 56, 52, 56, 53, 56, 54, 56, 55, 56, 56, 56, 57, 57, 48, 57, 49, 57, 50, 57, 51, 57, 52, 57, 53, 57, 54, 57, 55, 57, 56, 57, 57])) (.tmp 77))), none⟩,
 ⟨(some 79), (.val (.iaddr 1 (.tmp 68) (.tmp 70))), none⟩,
 ⟨none, (.val (.store 1 (.tmp 79) (.tmp 76))), none⟩,
 ⟨(some 80), (.val (.iaddr 1 (.tmp 71) (.tmp 73))), none⟩,
 ⟨none, (.val (.store 1 (.tmp 80) (.tmp 78))), none⟩] [])
 (.seq
 (.draw [⟨(some 81), (.val (.mov (.tmp 0))), none⟩,
 ⟨(some 82), (.val (.mov (.tmp 4))), none⟩,
 ⟨(some 83), (.val (.bin .sub (.tmp 82) (.const (.int .i64 7)))), none⟩,
 ⟨(some 84), (.val (.mov (.tmp 0))), none⟩,
 ⟨(some 85), (.val (.mov (.tmp 4))), none⟩,
 ⟨(some 86), (.val (.bin .sub (.tmp 85) (.const (.int .i64 8)))), none⟩,
 ⟨(some 87), (.val (.mov (.tmp 10))), none⟩,
 ⟨(some 88), (.val (.bin .add (.tmp 87) (.const (.int .u32 1)))), none⟩,
 ⟨(some 89), (.val (.idxstr (.const (.str [48, 48, 48, 49, 48, 50, 48, 51, 48, 52, 48, 53, 48, 54, 48, 55, 48, 56, 48, 57, 49, 48, 49, 49, 49, 50, 49, 51, 49, 52, 49, 53, 49, 54, 49, 55, 49, 56, 49, 57, 50, 48, 50, 49, 50, 50, 50, 51, 50, 52, 50, 53, 50, 54, 50, 55, 50, 56, 50, 57, 51, 48, 51, 49, 51, 50, 51, 51, 51, 52, 51, 53, 51, 54, 51, 55, 51, 56, 51, 57, 52, 48, 52, 49, 52, 50, 52, 51, 52, 52, 52, 53, 52, 54, 52, 55, 52, 56, 52, 57, 53, 48, 53, 49, 53, 50, 53, 51, 53, 52, 53, 53, 53, 54, 53, 55, 53, 56, 53, 57, 54, 48, 54, 49, 54, 50, 54, 51, 54, 52, 54, 53, 54, 54, 54, 55, 54, 56, 54, 57, 55, 48, 55, 49, 55, 50, 55, 51, 55, 52, 55, 53, 55, 54, 55, 55, 55, 56, 55, 57, 56, 48, 56, 49, 56, 50, 56, 51, 56, 52, 56, 53, 56, 54, 56, 55, 56, 56, 56, 57, 57, 48, 57, 49, 57, 50, 57, 51, 57, 52, 57, 53, 57, 54, 57, 55, 57, 56, 57, 57])) (.tmp 88))), none⟩,
 ⟨(some 90), (.val (.mov (.tmp 10))), none⟩,
 ⟨(some 91), (.val (.idxstr (.const (.str [48, 48, 48, 49, 48, 50, 48, 51, 48, 52, 48, 53, 48, 54, 48, 55, 48, 56, 48, 57, 49, 48, 49, 49, 49, 50, 49, 51, 49, 52, 49, 53, 49, 54, 49, 55, 49, 56, 49, 57, 50, 48, 50, 49, 50, 50, 50, 51, 50, 52, 50, 53, 50, 54, 50, 55, 50, 56, 50, 57, 51, 48, 51, 49, 51, 50, 51, 51, 51, 52, 51, 53, 51, 54, 51, 55, 51, 56, 51, 57, 52, 48, 52, 49, 52, 50, 52, 51, 52, 52, 52, 53, 52, 54, 52, 55, 52, 56, 52, 57, 53, 48, 53, 49, 53, 50, 53, 51, 53, 52, 53, 53, 53, 54, 53, 55, 53, 56, 53, 57, 54, 48, 54, 49, 54, 50, 54, 51, 54, 52, 54, 53, 54, 54, 54, 55, 54, 56, 54, 57, 55, 48, 55, 49, 55, 50, 55, 51, 55, 52, 55, 53, 55, 54, 55, 55, 55, 56, 55, 57, 56, 48, 56, 49, 56, 50, 56, 51, 56, 52, 56, 53, 56, 54, 56, 55, 56, 56, 56, 57, 57, 48, 57, 49, 57, 50, 57, 51, 57, 52, 57, 53, 57, 54, 57, 55, 57, 56, 57, 57])) (.tmp 90))), none⟩,
 ⟨(some 92), (.val (.iaddr 1 (.tmp 81) (.tmp 83))), none⟩,
 ⟨none, (.val (.store 1 (.tmp 92) (.tmp 89))), none⟩,
 ⟨(some 93), (.val (.iaddr 1 (.tmp 84) (.tmp 86))), none⟩,
 ⟨none, (.val (.store 1 (.tmp 93) (.tmp 91))), none⟩] [])
 (.region [⟨(some 94), (.val (.mov (.tmp 4))), none⟩,
 ⟨(some 95), (.val (.bin .sub (.tmp 94) (.const (.int .i64 8)))), none⟩,
 ⟨(some 4), (.val (.mov (.tmp 95))), none⟩]))))))))))))
def F_internal_strconv_formatBase10 : IFun :=
 ⟨167,
 (.seq
 (.region [⟨(some 17), (.val (.mov (.tmp 0))), none⟩,
 ⟨(some 18), (.val (.len (.tmp 17))), none⟩,
 ⟨(some 4), (.val (.mov (.tmp 18))), none⟩])
 (.seq
 (.block 0
 (.loop F_internal_strconv_formatBase10_l0))
 (.seq
 (.region [⟨(some 96), (.val (.mov (.tmp 1))), none⟩,
 ⟨(some 97), (.val (.conv (.int .u32) (.tmp 96))), none⟩,
 ⟨(some 12), (.val (.mov (.tmp 97))), none⟩])
 (.seq
 (.seq
 (.region [⟨(some 98), (.val (.mov (.tmp 4))), none⟩,
 ⟨(some 99), (.val (.bin .geq (.tmp 98) (.const (.int .i64 4)))), none⟩])
 (.cond (.tmp 99)
 (.seq
 (.region [⟨(some 100), (.val (.mov (.tmp 12))), none⟩,
 ⟨(some 101), (.val (.bin .rem (.tmp 100) (.const (.int .u32 10000)))), none⟩,
 ⟨(some 13), (.val (.mov (.tmp 101))), none⟩])
 (.seq
 (.region [⟨(some 102), (.val (.mov (.tmp 12))), none⟩,
 ⟨(some 103), (.val (.bin .quo (.tmp 102) (.const (.int .u32 10000)))), none⟩,
 ⟨(some 12), (.val (.mov (.tmp 103))), none⟩])
 (.seq
 (.region [⟨(some 104), (.val (.mov (.tmp 13))), none⟩,
 ⟨(some 105), (.val (.bin .quo (.tmp 104) (.const (.int .u32 100)))), none⟩,
 ⟨(some 106), (.val (.bin .mul (.tmp 105) (.const (.int .u32 2)))), none⟩,
 ⟨(some 107), (.val (.mov (.tmp 13))), none⟩,
 ⟨(some 108), (.val (.bin .rem (.tmp 107) (.const (.int .u32 100)))), none⟩,
 ⟨(some 109), (.val (.bin .mul (.tmp 108) (.const (.int .u32 2)))), none⟩,
 ⟨(some 14), (.val (.mov (.tmp 106))), none⟩,
 ⟨(some 15), (.val (.mov (.tmp 109))), none⟩])
 (.seq
 (.draw [⟨(some 110), (.val (.mov (.tmp 0))), none⟩,
 ⟨(some 111), (.val (.mov (.tmp 4))), none⟩,
 ⟨(some 112), (.val (.bin .sub (.tmp 111) (.const (.int .i64 1)))), none⟩,
 ⟨(some 113), (.val (.mov (.tmp 0))), none⟩,
 ⟨(some 114), (.val (.mov (.tmp 4))), none⟩,
 ⟨(some 115), (.val (.bin .sub (.tmp 114) (.const (.int .i64 2)))), none⟩,
 ⟨(some 116), (.val (.mov (.tmp 15))), none⟩,
 ⟨(some 117), (.val (.bin .add (.tmp 116) (.const (.int .u32 1)))), none⟩,
 ⟨(some 118), (.val (.idxstr (.const (.str [48, 48, 48, 49, 48, 50, 48, 51, 48, 52, 48, 53, 48, 54, 48, 55, 48, 56, 48, 57, 49, 48, 49, 49, 49, 50, 49, 51, 49, 52, 49, 53, 49, 54, 49, 55, 49, 56, 49, 57, 50, 48, 50, 49, 50, 50, 50, 51, 50, 52, 50, 53, 50, 54, 50, 55, 50, 56, 50, 57, 51, 48, 51, 49, 51, 50, 51, 51, 51, 52, 51, 53, 51, 54, 51, 55, 51, 56, 51, 57, 52, 48, 52, 49, 52, 50, 52, 51, 52, 52, 52, 53, 52, 54, 52, 55, 52, 56, 52, 57, 53, 48, 53, 49, 53, 50, 53, 51, 53, 52, 53, 53, 53, 54, 53, 55, 53, 56, 53, 57, 54, 48, 54, 49, 54, 50, 54, 51, 54, 52, 54, 53, 54, 54, 54, 55, 54, 56, 54, 57, 55, 48, 55, 49, 55, 50, 55, 51, 55, 52, 55, 53, 55, 54, 55, 55, 55, 56, 55, 57, 56, 48, 56, 49, 56, 50, 56, 51, 56, 52, 56, 53, 56, 54, 56, 55, 56, 56, 56, 57, 57, 48, 57, 49, 57, 50, 57, 51, 57, 52, 57, 53, 57, 54, 57, 55, 57, 56, 57, 57])) (.tmp 117))), none⟩,
 ⟨(some 119), (.val (.mov (.tmp 15))), none⟩,
 ⟨(some 120), (.val (.idxstr (.const (.str [48, 48, 48, 49, 48, 50, 48, 51, 48, 52, 48, 53, 48, 54, 48, 55, 48, 56, 48, 57, 49, 48, 49, 49, 49, 50, 49, 51, 49, 52, 49, 53, 49, 54, 49, 55, 49, 56, 49, 57, 50, 48, 50, 49, 50, 50, 50, 51, 50, 52, 50, 53, 50, 54, 50, 55, 50, 56, 50, 57, 51, 48, 51, 49, 51, 50, 51, 51, 51, 52, 51, 53, 51, 54, 51, 55, 51, 56, 51, 57, 52, 48, 52, 49, 52, 50, 52, 51, 52, 52, 52, 53, 52, 54, 52, 55, 52, 56, 52, 57, 53, 48, 53, 49, 53, 50, 53, 51, 53, 52, 53, 53, 53, 54, 53, 55, 53, 56, 53, 57, 54, 48, 54, 49, 54, 50, 54, 51, 54, 52, 54, 53, 54, 54, 54, 55, 54, 56, 54, 57, 55, 48, 55, 49, 55, 50, 55, 51, 55, 52, 55, 53, 55, 54, 55, 55, 55, 56, 55, 57, 56, 48, 56, 49, 56, 50, 56, 51, 56, 52, 56, 53, 56, 54, 56, 55, 56, 56, 56, 57, 57, 48, 57, 49, 57, 50, 57, 51, 57, 52, 57, 53, 57, 54, 57, 55, 57, 56, 57, 57])) (.tmp 119))), none⟩,
 ⟨(some 121), (.val (.iaddr 1 (.tmp 110) (.tmp 112))), none⟩,
 ⟨none, (.val (.store 1 (.tmp 121) (.tmp 118))), none⟩,
 ⟨(some 122), (.val (.iaddr 1 (.tmp 113) (.tmp 115))), none⟩,
 ⟨none, (.val (.store 1 (.tmp 122) (.tmp 120))), none⟩] [])
 (.seq
 (.draw [⟨(some 123), (.val (.mov (.tmp 0))), none⟩,
 ⟨(some 124), (.val (.mov (.tmp 4))), none⟩,
 ⟨(some 125), (.val (.bin .sub (.tmp 124) (.const (.int .i64 3)))), none⟩,
 ⟨(some 126), (.val (.mov (.tmp 0))), none⟩,
 ⟨(some 127), (.val (.mov (.tmp 4))), none⟩,
 ⟨(some 128), (.val (.bin .sub (.tmp 127) (.const (.int .i64 4)))), none⟩,
 ⟨(some 129), (.val (.mov (.tmp 14))), none⟩,
 ⟨(some 130), (.val (.bin .add (.tmp 129) (.const (.int .u32 1)))), none⟩,
 ⟨(some 131), (.val (.idxstr (.const (.str [48, 48, 48, 49, 48, 50, 48, 51, 48, 52, 48, 53, 48, 54, 48, 55, 48, 56, 48, 57, 49, 48, 49, 49, 49, 50, 49, 51, 49, 52, 49, 53, 49, 54, 49, 55, 49, 56, 49, 57, 50, 48, 50, 49, 50, 50, 50, 51, 50, 52, 50, 53, 50, 54, 50, 55, 50, 56, 50, 57, 51, 48, 51, 49, 51, 50, 51, 51, 51, 52, 51, 53, 51, 54, 51, 55, 51, 56, 51, 57, 52, 48, 52, 49, 52, 50, 52, 51, 52, 52, 52, 53, 52, 54, 52, 55, 52, 56, 52, 57, 53, 48, 53, 49, 53, 50, 53, 51, 53, 52, 53, 53, 53, 54, 53, 55, 53, 56, 53, 57, 54, 48, 54, 49, 54, 50, 54, 51, 54, 52, 54, 53, 54, 54, 54, 55, 54, 56, 54, 57, 55, 48, 55, 49, 55, 50, 55, 51, 55, 52, 55, 53, 55, 54, 55, 55, 55, 56, 55, 57, 56, 48, 56, 49, 56, 50, 56, 51, 56, 52, 56, 53, 56, 54, 56, 55, 56, 56, 56, 57, 57, 48, 57, 49, 57, 50, 57, 51, 57, 52, 57, 53, 57, 54, 57, 55, 57, 56, 57, 57])) (.tmp 130))), none⟩,
 ⟨(some 132), (.val (.mov (.tmp 14))), none⟩,
 ⟨(some 133), (.val (.idxstr (.const (.str [48, 48, 48, 49, 48, 50, 48, 51, 48, 52, 48, 53, 48, 54, 48, 55, 48, 56, 48, 57, 49, 48, 49, 49, 49, 50, 49, 51, 49, 52, 49, 53, 49, 54, 49, 55, 49, 56, 49, 57, 50, 48, 50, 49, 50, 50, 50, 51, 50, 52, 50, 53, 50, 54, 50, 55, 50, 56, 50, 57, 51, 48, 51, 49, 51, 50, 51, 51, 51, 52, 51, 53, 51, 54, 51, 55, 51, 56, 51, 57, 52, 48, 52, 49, 52, 50, 52, 51, 52, 52, 52, 53, 52, 54, 52, 55, 52, 56, 52, 57, 53, 48, 53, 49, 53, 50, 53, 51, 53, 52, 53, 53, 53, 54, 53, 55, 53, 56, 53, 57, 54, 48, 54, 49, 54, 50, 54, 51, 54, 52, 54, 53, 54, 54, 54, 55, 54, 56, 54, 57, 55, 48, 55, 49, 55, 50, 55, 51, 55, 52, 55, 53, 55, 54, 55, 55, 55, 56, 55, 57, 56, 48, 56, 49, 56, 50, 56, 51, 56, 52, 56, 53, 56, 54, 56, 55, 56, 56, 56, 57, 57, 48, 57, 49, 57, 50, 57, 51, 57, 52, 57, 53, 57, 54, 57, 55, 57, 56, 57, 57])) (.tmp 132))), none⟩,
 ⟨(some 134), (.val (.iaddr 1 (.tmp 123) (.tmp 125))), none⟩,
 ⟨none, (.val (.store 1 (.tmp 134) (.tmp 131))), none⟩,
 ⟨(some 135), (.val (.iaddr 1 (.tmp 126) (.tmp 128))), none⟩,
 ⟨none, (.val (.store 1 (.tmp 135) (.tmp 133))), none⟩] [])
 (.region [⟨(some 136), (.val (.mov (.tmp 4))), none⟩,
 ⟨(some 137), (.val (.bin .sub (.tmp 136) (.const (.int .i64 4)))), none⟩,
 ⟨(some 4), (.val (.mov (.tmp 137))), none⟩]))))))
 .skip))
 (.seq
 (.seq
 (.region [⟨(some 138), (.val (.mov (.tmp 4))), none⟩,
 ⟨(some 139), (.val (.bin .geq (.tmp 138) (.const (.int .i64 2)))), none⟩])
 (.cond (.tmp 139)
 (.seq
 (.region [⟨(some 140), (.val (.mov (.tmp 12))), none⟩,
 ⟨(some 141), (.val (.bin .rem (.tmp 140) (.const (.int .u32 100)))), none⟩,
 ⟨(some 142), (.val (.bin .mul (.tmp 141) (.const (.int .u32 2)))), none⟩,
 ⟨(some 16), (.val (.mov (.tmp 142))), none⟩])
 (.seq
 (.region [⟨(some 143), (.val (.mov (.tmp 12))), none⟩,
 ⟨(some 144), (.val (.bin .quo (.tmp 143) (.const (.int .u32 100)))), none⟩,
 ⟨(some 12), (.val (.mov (.tmp 144))), none⟩])
 (.seq
 (.draw [⟨(some 145), (.val (.mov (.tmp 0))), none⟩,
 ⟨(some 146), (.val (.mov (.tmp 4))), none⟩,
 ⟨(some 147), (.val (.bin .sub (.tmp 146) (.const (.int .i64 1)))), none⟩,
 ⟨(some 148), (.val (.mov (.tmp 0))), none⟩,
 ⟨(some 149), (.val (.mov (.tmp 4))), none⟩,
 ⟨(some 150), (.val (.bin .sub (.tmp 149) (.const (.int .i64 2)))), none⟩,
 ⟨(some 151), (.val (.mov (.tmp 16))), none⟩,
 ⟨(some 152), (.val (.bin .add (.tmp 151) (.const (.int .u32 1)))), none⟩,
 ⟨(some 153), (.val (.idxstr (.const (.str [48, 48, 48, 49, 48, 50, 48, 51, 48, 52, 48, 53, 48, 54, 48, 55, 48, 56, 48, 57, 49, 48, 49, 49, 49, 50, 49, 51, 49, 52, 49, 53, 49, 54, 49, 55, 49, 56, 49, 57, 50, 48, 50, 49, 50, 50, 50, 51, 50, 52, 50, 53, 50, 54, 50, 55, 50, 56, 50, 57, 51, 48, 51, 49, 51, 50, 51, 51, 51, 52, 51, 53, 51, 54, 51, 55, 51, 56, 51, 57, 52, 48, 52, 49, 52, 50, 52, 51, 52, 52, 52, 53, 52, 54, 52, 55, 52, 56, 52, 57, 53, 48, 53, 49, 53, 50, 53, 51, 53, 52, 53, 53, 53, 54, 53, 55, 53, 56, 53, 57, 54, 48, 54, 49, 54, 50, 54, 51, 54, 52, 54, 53, 54, 54, 54, 55, 54, 56, 54, 57, 55, 48, 55, 49, 55, 50, 55, 51, 55, 52, 55, 53, 55, 54, 55, 55, 55, 56, 55, 57, 56, 48, 56, 49, 56, 50, 56, 51, 56, 52, 56, 53, 56, 54, 56, 55, 56, 56, 56, 57, 57, 48, 57, 49, 57, 50, 57, 51, 57, 52, 57, 53, 57, 54, 57, 55, 57, 56, 57, 57])) (.tmp 152))), none⟩,
 ⟨(some 154), (.val (.mov (.tmp 16))), none⟩,
 ⟨(some 155), (.val (.idxstr (.const (.str [48, 48, 48, 49, 48, 50, 48, 51, 48, 52, 48, 53, 48, 54, 48, 55, 48, 56, 48, 57, 49, 48, 49, 49, 49, 50, 49, 51, 49, 52, 49, 53, 49, 54, 49, 55, 49, 56, 49, 57, 50, 48, 50, 49, 50, 50, 50, 51, 50, 52, 50, 53, 50, 54, 50, 55, 50, 56, 50, 57, 51, 48, 51, 49, 51, 50, 51, 51, 51, 52, 51, 53, 51, 54, 51, 55, 51, 56, 51, 57, 52, 48, 52, 49, 52, 50, 52, 51, 52, 52, 52, 53, 52, 54, 52, 55, 52, 56, 52, 57, 53, 48, 53, 49, 53, 50, 53, 51, 53, 52, 53, 53, 53, 54, 53, 55, 53, 56, 53, 57, 54, 48, 54, 49, 54, 50, 54, 51, 54, 52, 54, 53, 54, 54, 54, 55, 54, 56, 54, 57, 55, 48, 55, 49, 55, 50, 55, 51, 55, 52, 55, 53, 55, 54, 55, 55, 55, 56, 55, 57, 56, 48, 56, 49, 56, 50, 56, 51, 56, 52, 56, 53, 56, 54, 56, 55, 56, 56, 56, 57, 57, 48, 57, 49, 57, 50, 57, 51, 57, 52, 57, 53, 57, 54, 57, 55, 57, 56, 57, 57])) (.tmp 154))), none⟩,
 ⟨(some 156), (.val (.iaddr 1 (.tmp 145) (.tmp 147))), none⟩,
 ⟨none, (.val (.store 1 (.tmp 156) (.tmp 153))), none⟩,
 ⟨(some 157), (.val (.iaddr 1 (.tmp 148) (.tmp 150))), none⟩,
 ⟨none, (.val (.store 1 (.tmp 157) (.tmp 155))), none⟩] [])
 (.region [⟨(some 158), (.val (.mov (.tmp 4))), none⟩,
 ⟨(some 159), (.val (.bin .sub (.tmp 158) (.const (.int .i64 2)))), none⟩,
 ⟨(some 4), (.val (.mov (.tmp 159))), none⟩]))))
 .skip))
 (.seq
 (.region [⟨(some 160), (.val (.mov (.tmp 4))), none⟩,
 ⟨(some 161), (.val (.bin .gtr (.tmp 160) (.const (.int .i64 0)))), none⟩])
 (.cond (.tmp 161)
 (.region [⟨(some 162), (.val (.mov (.tmp 0))), none⟩,
 ⟨(some 163), (.val (.mov (.tmp 12))), none⟩,
 ⟨(some 164), (.val (.bin .add (.const (.int .u32 48)) (.tmp 163))), none⟩,
 ⟨(some 165), (.val (.conv (.int .u8) (.tmp 164))), none⟩,
 ⟨(some 166), (.val (.iaddr 1 (.tmp 162) (.const (.int .i64 0)))), none⟩,
 ⟨none, (.val (.store 1 (.tmp 166) (.tmp 165))), none⟩])
 .skip))))))),
 []⟩
theorem ok65 : cFun Tryd.prog G Tryd.f65 = some F_internal_strconv_formatBase10 := by kernel_rfl

end Go.Proofs.YtblcomejcahkdaaDoor.Ev
end
section
namespace Go.Proofs.YtblcomejcahkdaaDoor.Ev
open Go

/- internal/strconv.formatBits -/
abbrev n_internal_strconv_formatBits : Nat := 66
def F_internal_strconv_formatBits_l0 : ICode :=
 (.seq
 (.seq
 (.region [⟨(some 44), (.val (.mov (.tmp 1))), none⟩,
 ⟨(some 45), (.val (.mov (.tmp 15))), none⟩,
 ⟨(some 46), (.val (.bin .geq (.tmp 44) (.tmp 45))), none⟩])
 (.cond (.tmp 46)
 .skip
 (.exit 0)))
 (.block 1
 (.seq
 (.region [⟨(some 47), (.val (.mov (.tmp 13))), none⟩,
 ⟨(some 48), (.val (.bin .sub (.tmp 47) (.const (.int .i64 1)))), none⟩,
 ⟨(some 13), (.val (.mov (.tmp 48))), none⟩])
 (.seq
 (.region [⟨(some 49), (.val (.mov (.tmp 13))), none⟩,
 ⟨(some 50), (.val (.mov (.tmp 1))), none⟩,
 ⟨(some 51), (.val (.mov (.tmp 16))), none⟩,
 ⟨(some 52), (.val (.bin .and (.tmp 50) (.tmp 51))), none⟩,
 ⟨(some 53), (.val (.idxstr (.const (.str [48, 49, 50, 51, 52, 53, 54, 55, 56, 57, 97, 98, 99, 100, 101, 102, 103, 104, 105, 106, 107, 108, 109, 110, 111, 112, 113, 114, 115, 116, 117, 118, 119, 120, 121, 122])) (.tmp 52))), none⟩,
 ⟨(some 54), (.val (.iaddrArr 65 1 (.tmp 12) (.tmp 49))), none⟩,
 ⟨none, (.val (.store 1 (.tmp 54) (.tmp 53))), none⟩])
 (.region [⟨(some 55), (.val (.mov (.tmp 1))), none⟩,
 ⟨(some 56), (.val (.mov (.tmp 14))), none⟩,
 ⟨(some 57), (.val (.bin .shr (.tmp 55) (.tmp 56))), none⟩,
 ⟨(some 1), (.val (.mov (.tmp 57))), none⟩])))))
def F_internal_strconv_formatBits_l1 : ICode :=
 (.seq
 (.seq
 (.region [⟨(some 66), (.val (.mov (.tmp 1))), none⟩,
 ⟨(some 67), (.val (.mov (.tmp 17))), none⟩,
 ⟨(some 68), (.val (.bin .geq (.tmp 66) (.tmp 67))), none⟩])
 (.cond (.tmp 68)
 .skip
 (.exit 2)))
 (.block 3
 (.seq
 (.region [⟨(some 69), (.val (.mov (.tmp 13))), none⟩,
 ⟨(some 70), (.val (.bin .sub (.tmp 69) (.const (.int .i64 1)))), none⟩,
 ⟨(some 13), (.val (.mov (.tmp 70))), none⟩])
 (.seq
 (.region [⟨(some 71), (.val (.mov (.tmp 1))), none⟩,
 ⟨(some 72), (.val (.mov (.tmp 17))), none⟩,
 ⟨(some 73), (.val (.bin .quo (.tmp 71) (.tmp 72))), none⟩,
 ⟨(some 18), (.val (.mov (.tmp 73))), none⟩])
 (.seq
 (.region [⟨(some 74), (.val (.mov (.tmp 13))), none⟩,
 ⟨(some 75), (.val (.mov (.tmp 1))), none⟩,
 ⟨(some 76), (.val (.mov (.tmp 18))), none⟩,
 ⟨(some 77), (.val (.mov (.tmp 17))), none⟩,
 ⟨(some 78), (.val (.bin .mul (.tmp 76) (.tmp 77))), none⟩,
 ⟨(some 79), (.val (.bin .sub (.tmp 75) (.tmp 78))), none⟩,
 ⟨(some 80), (.val (.idxstr (.const (.str [48, 49, 50, 51, 52, 53, 54, 55, 56, 57, 97, 98, 99, 100, 101, 102, 103, 104, 105, 106, 107, 108, 109, 110, 111, 112, 113, 114, 115, 116, 117, 118, 119, 120, 121, 122])) (.tmp 79))), none⟩,
 ⟨(some 81), (.val (.iaddrArr 65 1 (.tmp 12) (.tmp 74))), none⟩,
 ⟨none, (.val (.store 1 (.tmp 81) (.tmp 80))), none⟩])
 (.region [⟨(some 82), (.val (.mov (.tmp 18))), none⟩,
 ⟨(some 1), (.val (.mov (.tmp 82))), none⟩]))))))
def F_internal_strconv_formatBits : IFun :=
 ⟨102,
 (.seq
 (.region [⟨(some 10), (.val (.mov (.const .nilslice))), none⟩,
 ⟨(some 11), (.val (.mov (.const (.str [])))), none⟩])
 (.seq
 (.seq
 (.region [⟨(some 19), (.val (.mov (.tmp 2))), none⟩,
 ⟨(some 20), (.val (.bin .lss (.tmp 19) (.const (.int .i64 2)))), none⟩,
 ⟨(some 21), (.val (.mov (.tmp 20))), none⟩,
 ⟨(some 22), (.val (.mov (.tmp 2))), (some (21, false))⟩,
 ⟨(some 23), (.val (.eq false (.prim 1) (.tmp 22) (.const (.int .i64 10)))), (some (21, false))⟩,
 ⟨(some 24), (.val (.pick (.tmp 21) (.const (.bool true)) (.tmp 23))), none⟩,
 ⟨(some 25), (.val (.mov (.tmp 24))), none⟩,
 ⟨(some 26), (.val (.mov (.tmp 2))), (some (25, false))⟩,
 ⟨(some 27), (.val (.bin .gtr (.tmp 26) (.const (.int .i64 36)))), (some (25, false))⟩,
 ⟨(some 28), (.val (.pick (.tmp 25) (.const (.bool true)) (.tmp 27))), none⟩])
 (.cond (.tmp 28)
 (.region [⟨(some 29), (.val (.iface 9 (.const (.str [115, 116, 114, 99, 111, 110, 118, 58, 32, 105, 108, 108, 101, 103, 97, 108, 32, 65, 112, 112, 101, 110, 100, 73, 110, 116, 47, 70, 111, 114, 109, 97, 116, 73, 110, 116, 32, 98, 97, 115, 101])))), none⟩,
 ⟨none, (.panic (.tmp 29)), none⟩])
 .skip))
 (.seq
 (.region [⟨(some 12), (.val (.alloc 91 [(.int .u8 0), (.int .u8 0), (.int .u8 0), (.int .u8 0), (.int .u8 0), (.int .u8 0), (.int .u8 0), (.int .u8 0), (.int .u8 0), (.int .u8 0), (.int .u8 0), (.int .u8 0), (.int .u8 0), (.int .u8 0), (.int .u8 0), (.int .u8 0), (.int .u8 0), (.int .u8 0), (.int .u8 0), (.int .u8 0), (.int .u8 0), (.int .u8 0), (.int .u8 0), (.int .u8 0), (.int .u8 0), (.int .u8 0), (.int .u8 0), (.int .u8 0), (.int .u8 0), (.int .u8 0), (.int .u8 0), (.int .u8 0), (.int .u8 0), (.int .u8 0), (.int .u8 0), (.int .u8 0), (.int .u8 0), (.int .u8 0), (.int .u8 0), (.int .u8 0), (.int .u8 0), (.int .u8 0), (.int .u8 0), (.int .u8 0), (.int .u8 0), (.int .u8 0), (.int .u8 0), (.int .u8 0), (.int .u8 0), (.int .u8 0), (.int .u8 0), (.int .u8 0), (.int .u8 0), (.int .u8 0), (.int .u8 0), (.int .u8 0), (.int .u8 0), (.int .u8 0), (.int .u8 0), (.int .u8 0), (.int .u8 0), (.int .u8 0), (.int .u8 0), (.int .u8 0), (.int .u8 0)])), none⟩])
 (.seq
 (.region [⟨(some 13), (.val (.mov (.const (.int .i64 65)))), none⟩])
 (.seq
 (.seq
 (.region [⟨(some 30), (.val (.mov (.tmp 3))), none⟩])
 (.cond (.tmp 30)
 (.region [⟨(some 31), (.val (.mov (.tmp 1))), none⟩,
 ⟨(some 32), (.val (.un .neg (.tmp 31))), none⟩,
 ⟨(some 1), (.val (.mov (.tmp 32))), none⟩])
 .skip))
 (.seq
 (.seq
 (.region [⟨(some 33), (.val (.mov (.tmp 2))), none⟩,
 ⟨(some 34), (.call (.const (.func 73 [] [])) [(.tmp 33)]), none⟩])
 (.cond (.tmp 34)
 (.seq
 (.region [⟨(some 35), (.val (.mov (.tmp 2))), none⟩,
 ⟨(some 36), (.val (.conv (.int .u64) (.tmp 35))), none⟩,
 ⟨(some 37), (.call (.const (.func 74 [] [])) [(.tmp 36)]), none⟩,
 ⟨(some 38), (.val (.conv (.int .u64) (.tmp 37))), none⟩,
 ⟨(some 14), (.val (.mov (.tmp 38))), none⟩])
 (.seq
 (.region [⟨(some 39), (.val (.mov (.tmp 2))), none⟩,
 ⟨(some 40), (.val (.conv (.int .u64) (.tmp 39))), none⟩,
 ⟨(some 15), (.val (.mov (.tmp 40))), none⟩])
 (.seq
 (.region [⟨(some 41), (.val (.mov (.tmp 2))), none⟩,
 ⟨(some 42), (.val (.conv (.int .u64) (.tmp 41))), none⟩,
 ⟨(some 43), (.val (.bin .sub (.tmp 42) (.const (.int .u64 1)))), none⟩,
 ⟨(some 16), (.val (.mov (.tmp 43))), none⟩])
 (.seq
 (.block 0
 (.loop F_internal_strconv_formatBits_l0))
 (.seq
 (.region [⟨(some 58), (.val (.mov (.tmp 13))), none⟩,
 ⟨(some 59), (.val (.bin .sub (.tmp 58) (.const (.int .i64 1)))), none⟩,
 ⟨(some 13), (.val (.mov (.tmp 59))), none⟩])
 (.region [⟨(some 60), (.val (.mov (.tmp 13))), none⟩,
 ⟨(some 61), (.val (.mov (.tmp 1))), none⟩,
 ⟨(some 62), (.val (.idxstr (.const (.str [48, 49, 50, 51, 52, 53, 54, 55, 56, 57, 97, 98, 99, 100, 101, 102, 103, 104, 105, 106, 107, 108, 109, 110, 111, 112, 113, 114, 115, 116, 117, 118, 119, 120, 121, 122])) (.tmp 61))), none⟩,
 ⟨(some 63), (.val (.iaddrArr 65 1 (.tmp 12) (.tmp 60))), none⟩,
 ⟨none, (.val (.store 1 (.tmp 63) (.tmp 62))), none⟩]))))))
 (.seq
 (.region [⟨(some 64), (.val (.mov (.tmp 2))), none⟩,
 ⟨(some 65), (.val (.conv (.int .u64) (.tmp 64))), none⟩,
 ⟨(some 17), (.val (.mov (.tmp 65))), none⟩])
 (.seq
 (.block 2
 (.loop F_internal_strconv_formatBits_l1))
 (.seq
 (.region [⟨(some 83), (.val (.mov (.tmp 13))), none⟩,
 ⟨(some 84), (.val (.bin .sub (.tmp 83) (.const (.int .i64 1)))), none⟩,
 ⟨(some 13), (.val (.mov (.tmp 84))), none⟩])
 (.region [⟨(some 85), (.val (.mov (.tmp 13))), none⟩,
 ⟨(some 86), (.val (.mov (.tmp 1))), none⟩,
 ⟨(some 87), (.val (.idxstr (.const (.str [48, 49, 50, 51, 52, 53, 54, 55, 56, 57, 97, 98, 99, 100, 101, 102, 103, 104, 105, 106, 107, 108, 109, 110, 111, 112, 113, 114, 115, 116, 117, 118, 119, 120, 121, 122])) (.tmp 86))), none⟩,
 ⟨(some 88), (.val (.iaddrArr 65 1 (.tmp 12) (.tmp 85))), none⟩,
 ⟨none, (.val (.store 1 (.tmp 88) (.tmp 87))), none⟩]))))))
 (.seq
 (.seq
 (.region [⟨(some 89), (.val (.mov (.tmp 3))), none⟩])
 (.cond (.tmp 89)
 (.seq
 (.region [⟨(some 90), (.val (.mov (.tmp 13))), none⟩,
 ⟨(some 91), (.val (.bin .sub (.tmp 90) (.const (.int .i64 1)))), none⟩,
 ⟨(some 13), (.val (.mov (.tmp 91))), none⟩])
 (.region [⟨(some 92), (.val (.mov (.tmp 13))), none⟩,
 ⟨(some 93), (.val (.iaddrArr 65 1 (.tmp 12) (.tmp 92))), none⟩,
 ⟨none, (.val (.store 1 (.tmp 93) (.const (.int .u8 45)))), none⟩]))
 .skip))
 (.seq
 (.seq
 (.region [⟨(some 94), (.val (.mov (.tmp 4))), none⟩])
 (.cond (.tmp 94)
 (.seq
 (.region [⟨(some 95), (.val (.mov (.tmp 0))), none⟩,
 ⟨(some 96), (.val (.mov (.tmp 13))), none⟩,
 ⟨(some 97), (.val (.slarr 65 1 (.tmp 12) (some (.tmp 96)) none none)), none⟩,
 ⟨(some 98), (.val (.append 5 1 1 (.tmp 95) (.tmp 97))), none⟩,
 ⟨(some 10), (.val (.mov (.tmp 98))), none⟩])
 .ret)
 .skip))
 (.seq
 (.region [⟨(some 99), (.val (.mov (.tmp 13))), none⟩,
 ⟨(some 100), (.val (.slarr 65 1 (.tmp 12) (some (.tmp 99)) none none)), none⟩,
 ⟨(some 101), (.val (.conv .text (.tmp 100))), none⟩,
 ⟨(some 11), (.val (.mov (.tmp 101))), none⟩])
 .ret))))))))),
 [.tmp 10, .tmp 11]⟩
theorem ok66 : cFun Tryd.prog G Tryd.f66 = some F_internal_strconv_formatBits := by kernel_rfl

/- balustrade/balustraderef05.Words -/
abbrev n_r05_Words : Nat := 69
def F_r05_Words : IFun :=
 ⟨2,
 (.seq
 (.region [⟨(some 0), (.val (.mov (.const .nilslice))), none⟩])
 (.seq
 (.region [⟨(some 1), (.val (.bslice 9 1 18 [(.str [])] [(0, (.const (.str [102, 110]))), (1, (.const (.str [118, 97, 114]))), (2, (.const (.str [105, 102]))), (3, (.const (.str [101, 108, 115, 101]))), (4, (.const (.str [119, 104, 105, 108, 101]))), (5, (.const (.str [102, 111, 114]))), (6, (.const (.str [98, 114, 101, 97, 107]))), (7, (.const (.str [99, 111, 110, 116, 105, 110, 117, 101]))), (8, (.const (.str [114, 101, 116, 117, 114, 110]))), (9, (.const (.str [112, 114, 105, 110, 116]))), (10, (.const (.str [108, 101, 110]))), (11, (.const (.str [110, 101, 119]))), (12, (.const (.str [116, 114, 117, 101]))), (13, (.const (.str [102, 97, 108, 115, 101]))), (14, (.const (.str [110, 105, 108]))), (15, (.const (.str [105, 110, 116]))), (16, (.const (.str [98, 111, 111, 108]))), (17, (.const (.str [97, 114, 114])))])), none⟩,
 ⟨(some 0), (.val (.mov (.tmp 1))), none⟩])
 .ret)),
 [.tmp 0]⟩
theorem ok69 : cFun Tryd.prog G Tryd.f69 = some F_r05_Words := by kernel_rfl

/- internal/strconv.log10Pow2 -/
abbrev n_internal_strconv_log10Pow2 : Nat := 70
def F_internal_strconv_log10Pow2 : IFun :=
 ⟨6,
 (.seq
 (.region [⟨(some 2), (.val (.mov (.const (.int .i64 0)))), none⟩])
 (.seq
 (.region [⟨(some 3), (.val (.mov (.tmp 0))), none⟩,
 ⟨(some 4), (.val (.bin .mul (.tmp 3) (.const (.int .i64 78913)))), none⟩,
 ⟨(some 5), (.val (.bin .shr (.tmp 4) (.const (.int .u64 18)))), none⟩,
 ⟨(some 2), (.val (.mov (.tmp 5))), none⟩])
 .ret)),
 [.tmp 2]⟩
theorem ok70 : cFun Tryd.prog G Tryd.f70 = some F_internal_strconv_log10Pow2 := by kernel_rfl

/- math/bits.Len64 -/
abbrev n_math_bits_Len64 : Nat := 71
def F_math_bits_Len64 : IFun :=
 ⟨25,
 (.seq
 (.region [⟨(some 2), (.val (.mov (.const (.int .i64 0)))), none⟩])
 (.seq
 (.seq
 (.region [⟨(some 3), (.val (.mov (.tmp 0))), none⟩,
 ⟨(some 4), (.val (.bin .geq (.tmp 3) (.const (.int .u64 4294967296)))), none⟩])
 (.cond (.tmp 4)
 (.seq
 (.region [⟨(some 5), (.val (.mov (.tmp 0))), none⟩,
 ⟨(some 6), (.val (.bin .shr (.tmp 5) (.const (.int .u64 32)))), none⟩,
 ⟨(some 0), (.val (.mov (.tmp 6))), none⟩])
 (.region [⟨(some 2), (.val (.mov (.const (.int .i64 32)))), none⟩]))
 .skip))
 (.seq
 (.seq
 (.region [⟨(some 7), (.val (.mov (.tmp 0))), none⟩,
 ⟨(some 8), (.val (.bin .geq (.tmp 7) (.const (.int .u64 65536)))), none⟩])
 (.cond (.tmp 8)
 (.seq
 (.region [⟨(some 9), (.val (.mov (.tmp 0))), none⟩,
 ⟨(some 10), (.val (.bin .shr (.tmp 9) (.const (.int .u64 16)))), none⟩,
 ⟨(some 0), (.val (.mov (.tmp 10))), none⟩])
 (.region [⟨(some 11), (.val (.mov (.tmp 2))), none⟩,
 ⟨(some 12), (.val (.bin .add (.tmp 11) (.const (.int .i64 16)))), none⟩,
 ⟨(some 2), (.val (.mov (.tmp 12))), none⟩]))
 .skip))
 (.seq
 (.seq
 (.region [⟨(some 13), (.val (.mov (.tmp 0))), none⟩,
 ⟨(some 14), (.val (.bin .geq (.tmp 13) (.const (.int .u64 256)))), none⟩])
 (.cond (.tmp 14)
 (.seq
 (.region [⟨(some 15), (.val (.mov (.tmp 0))), none⟩,
 ⟨(some 16), (.val (.bin .shr (.tmp 15) (.const (.int .u64 8)))), none⟩,
 ⟨(some 0), (.val (.mov (.tmp 16))), none⟩])
 (.region [⟨(some 17), (.val (.mov (.tmp 2))), none⟩,
 ⟨(some 18), (.val (.bin .add (.tmp 17) (.const (.int .i64 8)))), none⟩,
 ⟨(some 2), (.val (.mov (.tmp 18))), none⟩]))
 .skip))
 (.seq
 (.region [⟨(some 19), (.val (.mov (.tmp 2))), none⟩,
 ⟨(some 20), (.val (.mov (.tmp 0))), none⟩,
 ⟨(some 21), (.val (.conv (.int .u8) (.tmp 20))), none⟩,
 ⟨(some 22), (.val (.idxstr (.const (.str [0, 1, 2, 2, 3, 3, 3, 3, 4, 4, 4, 4, 4, 4, 4, 4, 5, 5, 5, 5, 5, 5, 5, 5, 5, 5, 5, 5, 5, 5, 5, 5, 6, 6, 6, 6, 6, 6, 6, 6, 6, 6, 6, 6, 6, 6, 6, 6, 6, 6, 6, 6, 6, 6, 6, 6, 6, 6, 6, 6, 6, 6, 6, 6, 7, 7, 7, 7, 7, 7, 7, 7, 7, 7, 7, 7, 7, 7, 7, 7, 7, 7, 7, 7, 7, 7, 7, 7, 7, 7, 7, 7, 7, 7, 7, 7, 7, 7, 7, 7, 7, 7, 7, 7, 7, 7, 7, 7, 7, 7, 7, 7, 7, 7, 7, 7, 7, 7, 7, 7, 7, 7, 7, 7, 7, 7, 7, 7, 8, 8, 8, 8, 8, 8, 8, 8, 8, 8, 8, 8, 8, 8, 8, 8, 8, 8, 8, 8, 8, 8, 8, 8, 8, 8, 8, 8, 8, 8, 8, 8, 8, 8, 8, 8, 8, 8, 8, 8, 8, 8, 8, 8, 8, 8, 8, 8, 8, 8, 8, 8, 8, 8, 8, 8, 8, 8, 8, 8, 8, 8, 8, 8, 8, 8, 8, 8, 8, 8, 8, 8, 8, 8, 8, 8, 8, 8, 8, 8, 8, 8, 8, 8, 8, 8, 8, 8, 8, 8, 8, 8, 8, 8, 8, 8, 8, 8, 8, 8, 8, 8, 8, 8, 8, 8, 8, 8, 8, 8, 8, 8, 8, 8, 8, 8, 8, 8, 8, 8, 8, 8, 8, 8, 8, 8, 8, 8])) (.tmp 21))), none⟩,
 ⟨(some 23), (.val (.conv (.int .i64) (.tmp 22))), none⟩,
 ⟨(some 24), (.val (.bin .add (.tmp 19) (.tmp 23))), none⟩,
 ⟨(some 2), (.val (.mov (.tmp 24))), none⟩])
 .ret))))),
 [.tmp 2]⟩
theorem ok71 : cFun Tryd.prog G Tryd.f71 = some F_math_bits_Len64 := by kernel_rfl

/- internal/strconv.bool2[int] -/
abbrev n_internal_strconv_bool2_int : Nat := 72
def F_internal_strconv_bool2_int : IFun :=
 ⟨4,
 (.seq
 (.region [⟨(some 2), (.val (.mov (.const (.int .i64 0)))), none⟩])
 (.seq
 (.seq
 (.region [⟨(some 3), (.val (.mov (.tmp 0))), none⟩])
 (.cond (.tmp 3)
 (.seq
 (.region [⟨(some 2), (.val (.mov (.const (.int .i64 1)))), none⟩])
 .ret)
 .skip))
 (.seq
 (.region [⟨(some 2), (.val (.mov (.const (.int .i64 0)))), none⟩])
 .ret))),
 [.tmp 2]⟩
theorem ok72 : cFun Tryd.prog G Tryd.f72 = some F_internal_strconv_bool2_int := by kernel_rfl

/- internal/strconv.isPowerOfTwo -/
abbrev n_internal_strconv_isPowerOfTwo : Nat := 73
def F_internal_strconv_isPowerOfTwo : IFun :=
 ⟨8,
 (.seq
 (.region [⟨(some 2), (.val (.mov (.const (.bool false)))), none⟩])
 (.seq
 (.region [⟨(some 3), (.val (.mov (.tmp 0))), none⟩,
 ⟨(some 4), (.val (.mov (.tmp 0))), none⟩,
 ⟨(some 5), (.val (.bin .sub (.tmp 4) (.const (.int .i64 1)))), none⟩,
 ⟨(some 6), (.val (.bin .and (.tmp 3) (.tmp 5))), none⟩,
 ⟨(some 7), (.val (.eq false (.prim 1) (.tmp 6) (.const (.int .i64 0)))), none⟩,
 ⟨(some 2), (.val (.mov (.tmp 7))), none⟩])
 .ret)),
 [.tmp 2]⟩
theorem ok73 : cFun Tryd.prog G Tryd.f73 = some F_internal_strconv_isPowerOfTwo := by kernel_rfl

/- math/bits.TrailingZeros -/
abbrev n_math_bits_TrailingZeros : Nat := 74
def F_math_bits_TrailingZeros : IFun :=
 ⟨8,
 (.seq
 (.region [⟨(some 2), (.val (.mov (.const (.int .i64 0)))), none⟩])
 (.seq
 (.cond (.const (.bool false))
 (.seq
 (.region [⟨(some 3), (.val (.mov (.tmp 0))), none⟩,
 ⟨(some 4), (.val (.conv (.int .u32) (.tmp 3))), none⟩,
 ⟨(some 5), (.call (.const (.func 75 [] [])) [(.tmp 4)]), none⟩,
 ⟨(some 2), (.val (.mov (.tmp 5))), none⟩])
 .ret)
 .skip)
 (.seq
 (.region [⟨(some 6), (.val (.mov (.tmp 0))), none⟩,
 ⟨(some 7), (.call (.const (.func 76 [] [])) [(.tmp 6)]), none⟩,
 ⟨(some 2), (.val (.mov (.tmp 7))), none⟩])
 .ret))),
 [.tmp 2]⟩
theorem ok74 : cFun Tryd.prog G Tryd.f74 = some F_math_bits_TrailingZeros := by kernel_rfl

/- math/bits.TrailingZeros32 -/
abbrev n_math_bits_TrailingZeros32 : Nat := 75
def F_math_bits_TrailingZeros32 : IFun :=
 ⟨14,
 (.seq
 (.region [⟨(some 2), (.val (.mov (.const (.int .i64 0)))), none⟩])
 (.seq
 (.seq
 (.region [⟨(some 3), (.val (.mov (.tmp 0))), none⟩,
 ⟨(some 4), (.val (.eq false (.prim 1) (.tmp 3) (.const (.int .u32 0)))), none⟩])
 (.cond (.tmp 4)
 (.seq
 (.region [⟨(some 2), (.val (.mov (.const (.int .i64 32)))), none⟩])
 .ret)
 .skip))
 (.seq
 (.region [⟨(some 5), (.val (.mov (.tmp 0))), none⟩,
 ⟨(some 6), (.val (.mov (.tmp 0))), none⟩,
 ⟨(some 7), (.val (.un .neg (.tmp 6))), none⟩,
 ⟨(some 8), (.val (.bin .and (.tmp 5) (.tmp 7))), none⟩,
 ⟨(some 9), (.val (.bin .mul (.tmp 8) (.const (.int .u32 125613361)))), none⟩,
 ⟨(some 10), (.val (.bin .shr (.tmp 9) (.const (.int .u64 27)))), none⟩,
 ⟨(some 11), (.val (.iaddrArr 32 1 (.const (.ptr 4 0)) (.tmp 10))), none⟩,
 ⟨(some 12), (.val (.load none (.tmp 11))), none⟩,
 ⟨(some 13), (.val (.conv (.int .i64) (.tmp 12))), none⟩,
 ⟨(some 2), (.val (.mov (.tmp 13))), none⟩])
 .ret))),
 [.tmp 2]⟩
theorem ok75 : cFun Tryd.prog G Tryd.f75 = some F_math_bits_TrailingZeros32 := by kernel_rfl

/- math/bits.TrailingZeros64 -/
abbrev n_math_bits_TrailingZeros64 : Nat := 76
def F_math_bits_TrailingZeros64 : IFun :=
 ⟨14,
 (.seq
 (.region [⟨(some 2), (.val (.mov (.const (.int .i64 0)))), none⟩])
 (.seq
 (.seq
 (.region [⟨(some 3), (.val (.mov (.tmp 0))), none⟩,
 ⟨(some 4), (.val (.eq false (.prim 1) (.tmp 3) (.const (.int .u64 0)))), none⟩])
 (.cond (.tmp 4)
 (.seq
 (.region [⟨(some 2), (.val (.mov (.const (.int .i64 64)))), none⟩])
 .ret)
 .skip))
 (.seq
 (.region [⟨(some 5), (.val (.mov (.tmp 0))), none⟩,
 ⟨(some 6), (.val (.mov (.tmp 0))), none⟩,
 ⟨(some 7), (.val (.un .neg (.tmp 6))), none⟩,
 ⟨(some 8), (.val (.bin .and (.tmp 5) (.tmp 7))), none⟩,
 ⟨(some 9), (.val (.bin .mul (.tmp 8) (.const (.int .u64 285870213051353865)))), none⟩,
 ⟨(some 10), (.val (.bin .shr (.tmp 9) (.const (.int .u64 58)))), none⟩,
 ⟨(some 11), (.val (.iaddrArr 64 1 (.const (.ptr 5 0)) (.tmp 10))), none⟩,
 ⟨(some 12), (.val (.load none (.tmp 11))), none⟩,
 ⟨(some 13), (.val (.conv (.int .i64) (.tmp 12))), none⟩,
 ⟨(some 2), (.val (.mov (.tmp 13))), none⟩])
 .ret))),
 [.tmp 2]⟩
theorem ok76 : cFun Tryd.prog G Tryd.f76 = some F_math_bits_TrailingZeros64 := by kernel_rfl

end Go.Proofs.YtblcomejcahkdaaDoor.Ev
end
section
namespace Go.Proofs.YtblcomejcahkdaaDoor.Ev
open Go Go.RowKit

theorem law_calls {P : Program} {G : List Nat} (hmix : P.follows .mixedOrders = true) {T : Nat → Option Ent} (hT : ∀ f e, T f = some e → EntOk P G f e) {k f : Nat} {F : IFun} (hf : T f = some (.go F))
    {args : List EV} {m m' : Mem} {b : Bool} (h : evFun T k f args m = some (.ret (.bool b) m')) {ρ : Ren} {w : World} {args' : Array Value} (hR : R w.heap.size ρ m w) (hG : Globs G ρ)
    (hro : ∀ b L, ρ b = some L → Live m b → L.ro = true) (hv : VRs ρ args args'.toList) : Calls P f args' w fun e w' => e = .returned (.bool b) ∧ Below w.heap.size w w' := by
  cases k with
  | zero => simp [evFun] at h
  | succ k =>
    simp only [evFun, hf, evEnt] at h
    obtain ⟨fn, h1, h2⟩ := hT f _ hf
    obtain ⟨_, hc⟩ := body_sound hmix (evFun_ok hmix hT k) k h1 h2 h hR hG hv
    refine hc.mono fun e w' hp => ?_
    obtain ⟨ρ', v', rfl, hvv, _, hs⟩ := hp
    cases hvv
    refine ⟨rfl, hs.os, hs.tape, hs.output, hs.size, fun i hi => hs.kept i hi ?_⟩
    rintro ⟨b, L, h1, h2, h3, _⟩
    rw [hro b L h1 h2] at h3
    cases h3

def ren0 (n : Nat) : Ren := fun b => if b < n then some ⟨b, 0, (match tabl b with | some l => l.length | none => 0), 1, true⟩ else none
def mem0 (n : Nat) : Mem := ⟨n, .leaf⟩
theorem mem0_get (n b : Nat) : (mem0 n).get b = .dead := by unfold Mem.get mem0; simp only [Tr.get_leaf]; rfl
def CallLe (c c' : Call) : Prop := ∀ f a m r, c f a m = some r → c' f a m = some r
theorem evCall_le {c c' : Call} (h : CallLe c c') {f : EV} {a : List EV} {m : Mem} {r : Fin} (e : evCall c f a m = some r) : evCall c' f a m = some r := by
  cases f <;> simp only [evCall, reduceCtorEq] at e ⊢
  exact h _ _ _ _ e
theorem evOps_le {c c' : Call} (h : CallLe c c') : ∀ (ops : List IOper) (fr : Fr) (m : Mem) (r : Out), evOps c ops fr m = some r → evOps c' ops fr m = some r
  | [], fr, m, r, e => e
  | o :: ops, fr, m, r, e => by
    simp only [evOps] at e ⊢
    cases hw : wantedE fr o.guard with
    | none => simp [hw] at e
    | some b =>
    cases b with
    | false => simp only [hw] at e ⊢; exact evOps_le h ops _ _ _ e
    | true =>
      simp only [hw] at e ⊢
      cases ho : o.op with
      | val op =>
        simp only [ho] at e ⊢
        cases hv : evOp fr.eval op m with
        | none => simp [hv] at e
        | some q => obtain ⟨v, m1⟩ := q; simp only [hv] at e ⊢; exact evOps_le h ops _ _ _ e
      | call f args =>
        simp only [ho] at e ⊢
        cases hv : evCall c (fr.eval f) (args.map fr.eval) m with
        | none => simp [hv] at e
        | some q =>
          rw [evCall_le h hv]
          cases q with
          | ret v m1 => simp only [hv] at e ⊢; exact evOps_le h ops _ _ _ e
          | pan v m1 => simp only [hv] at e ⊢; exact e
      | panic x => simp only [ho] at e ⊢; exact e
      | defer f args =>
        simp only [ho] at e ⊢
        split at e
        · exact evOps_le h ops _ _ _ e
        · cases e
theorem evDraw_le {c c' : Call} (h : CallLe c c') {chk : List (Nat × Nat)} {B0 : Nat} : ∀ (ops : List IOper) (i : Nat) (fr : Fr) (m : Mem) (sn : List (Nat × Mem)) (se : List Seen) (r : Out), evDraw c chk B0 ops i fr m sn se = some r → evDraw c' chk B0 ops i fr m sn se = some r
  | [], i, fr, m, sn, se, r, e => e
  | o :: ops, i, fr, m, sn, se, r, e => by
    simp only [evDraw] at e ⊢
    cases hw : wantedE fr o.guard with
    | none => simp [hw] at e
    | some b =>
    cases b with
    | false => simp only [hw] at e ⊢; exact evDraw_le h ops _ _ _ _ _ _ e
    | true =>
      simp only [hw] at e ⊢
      cases ho : o.op with
      | panic x => simp [ho] at e
      | defer f x => simp [ho] at e
      | call f args =>
        simp only [ho] at e ⊢
        cases hv : evCall c (fr.eval f) (args.map fr.eval) m with
        | none => simp [hv] at e
        | some q =>
          rw [evCall_le h hv]
          cases q with
          | pan v m1 => simp [hv] at e
          | ret v m1 =>
            simp only [hv] at e ⊢
            cases hk : checkSeen chk i m1 se <;> simp only [hk, cond_true, cond_false, reduceCtorEq] at e ⊢
            exact evDraw_le h ops _ _ _ _ _ _ e
      | val op =>
        simp only [ho] at e ⊢
        split at e
        · cases hv : evOp fr.eval op m with
          | none => simp [hv] at e
          | some q => obtain ⟨v, m1⟩ := q; simp only [hv] at e ⊢; exact evDraw_le h ops _ _ _ _ _ _ e
        · cases hv : evOp fr.eval op ⟨B0 + i, m.tbl⟩ with
          | none => simp [hv] at e
          | some q => obtain ⟨v, m1⟩ := q; simp only [hv] at e ⊢; exact evDraw_le h ops _ _ _ _ _ _ e
        · split at e
          · rename_i agg x _
            cases hl : m.load agg (fr.eval x) with
            | none => simp [hl] at e
            | some v =>
              simp only [hl] at e ⊢
              cases hf : isF (fr.eval x) <;> simp only [hf, cond_true, cond_false] at e ⊢
              · cases hk : checkSnap chk i agg (fr.eval x) v sn <;> simp only [hk, cond_true, cond_false, reduceCtorEq] at e ⊢
                exact evDraw_le h ops _ _ _ _ _ _ e
              · cases hk : checkOld chk i m.next sn <;> simp only [hk, cond_true, cond_false, reduceCtorEq] at e ⊢
                exact evDraw_le h ops _ _ _ _ _ _ e
          · cases e
        · rename_i h0 h1 h2
          cases hv : evOp fr.eval op m with
          | none => simp [hv] at e
          | some q =>
            obtain ⟨v, m1⟩ := q
            simp only [hv] at e ⊢
            cases hk : checkSeen chk i m1 se <;> simp only [hk, cond_true, cond_false, reduceCtorEq] at e ⊢
            exact evDraw_le h ops _ _ _ _ _ _ e
theorem iter_le {b b' : Fr → Mem → Option Out} (h : ∀ fr m r, b fr m = some r → b' fr m = some r) : ∀ (n n' : Nat), n ≤ n' → ∀ (fr : Fr) (m : Mem) (r : Out), iter b n fr m = some r → iter b' n' fr m = some r
  | 0, n', _, fr, m, r, e => by simp [iter] at e
  | n + 1, 0, hn, fr, m, r, e => by omega
  | n + 1, n' + 1, hn, fr, m, r, e => by
    simp only [iter] at e ⊢
    cases hb : b fr m with
    | none => simp [hb] at e
    | some o =>
      rw [h _ _ _ hb]
      simp only [hb] at e
      cases o with
      | norm fr1 m1 => exact iter_le h n n' (by omega) fr1 m1 r e
      | exit id fr1 m1 => exact e
      | ret fr1 m1 => exact e
      | pan v fr1 m1 => exact e
theorem evCode_le {c c' : Call} (h : CallLe c c') {n n' : Nat} (hn : n ≤ n') : ∀ (x : ICode) (fr : Fr) (m : Mem) (r : Out), evCode c n x fr m = some r → evCode c' n' x fr m = some r
  | .skip, fr, m, r, e => e
  | .ret, fr, m, r, e => e
  | .exit id, fr, m, r, e => e
  | .region ops, fr, m, r, e => by simp only [evCode] at e ⊢; exact evOps_le h _ _ _ _ e
  | .draw ops chk, fr, m, r, e => by simp only [evCode] at e ⊢; exact evDraw_le h _ _ _ _ _ _ _ e
  | .seq a b, fr, m, r, e => by
    simp only [evCode] at e ⊢
    cases ha : evCode c n a fr m with
    | none => simp [ha] at e
    | some o =>
      rw [evCode_le h hn a _ _ _ ha]
      simp only [ha] at e
      cases o with
      | norm fr1 m1 => exact evCode_le h hn b _ _ _ e
      | exit id fr1 m1 => exact e
      | ret fr1 m1 => exact e
      | pan v fr1 m1 => exact e
  | .cond x a b, fr, m, r, e => by
    simp only [evCode] at e ⊢
    split at e
    · rename_i t _
      cases t <;> simp only [cond_true, cond_false] at e ⊢
      · exact evCode_le h hn b _ _ _ e
      · exact evCode_le h hn a _ _ _ e
    · cases e
  | .block id a, fr, m, r, e => by
    simp only [evCode] at e ⊢
    cases ha : evCode c n a fr m with
    | none => simp [ha] at e
    | some o =>
      rw [evCode_le h hn a _ _ _ ha]
      simp only [ha] at e
      exact e
  | .loop a, fr, m, r, e => by
    simp only [evCode] at e ⊢
    exact iter_le (fun fr m r => evCode_le h hn a fr m r) n n' hn fr m r e
theorem evBody_le {c c' : Call} (h : CallLe c c') {n n' : Nat} (hn : n ≤ n') {F : IFun} {args : List EV} {m : Mem} {r : Fin} (e : evBody c n F args m = some r) : evBody c' n' F args m = some r := by
  unfold evBody at e ⊢
  cases hl : args.length.ble F.ntmps <;> simp only [hl, cond_true, cond_false, reduceCtorEq] at e ⊢
  cases hc : evCode c n F.body ⟨args0 args 0 .leaf, []⟩ m with
  | none => simp [hc] at e
  | some o =>
    rw [evCode_le h hn _ _ _ _ hc]
    simp only [hc] at e
    exact e
theorem evBodyR_le {c c' : Call} (h : CallLe c c') {n n' : Nat} (hn : n ≤ n') {d : Nat} {F : IFun} {args : List EV} {u : Option EV} {m m' : Mem} (e : evBodyR c n d F args u m = some m') : evBodyR c' n' d F args u m = some m' := by
  unfold evBodyR at e ⊢
  cases hl : args.length.ble F.ntmps <;> simp only [hl, cond_true, cond_false, reduceCtorEq] at e ⊢
  cases hc : evCode c n F.body (Fr.set ⟨args0 args 0 .leaf, []⟩ d (u.getD .niliface)) m with
  | none => simp [hc] at e
  | some o =>
    rw [evCode_le h hn _ _ _ _ hc]
    simp only [hc] at e
    exact e
theorem evLeave_le {c c' : Call} (h : CallLe c c') {n n' : Nat} (hn : n ≤ n') {rs : List IRes} {D : List (Nat × Option Nat × IFun)} {fr : Fr} : ∀ (ds : List (Nat × List EV)) (u : Option EV) (m : Mem) (r : Fin), evLeave c n rs D fr ds u m = some r → evLeave c' n' rs D fr ds u m = some r
  | [], none, m, r, e => e
  | [], some v, m, r, e => e
  | (g, args) :: ds, u, m, r, e => by
    simp only [evLeave] at e ⊢
    cases hd : dfind g D with
    | none => simp [hd] at e
    | some q =>
      obtain ⟨b, F⟩ := q
      cases b with
      | some d =>
        simp only [hd] at e ⊢
        cases hb : evBodyR c n d F args u m with
        | none => simp [hb] at e
        | some m1 =>
          rw [evBodyR_le h hn hb]
          simp only [hb] at e
          exact evLeave_le h hn ds none m1 r e
      | none =>
        simp only [hd] at e ⊢
        cases hb : evBody c n F args m with
        | none => simp [hb] at e
        | some fin =>
          rw [evBody_le h hn hb]
          simp only [hb] at e
          cases fin with
          | ret v m1 => exact evLeave_le h hn ds u m1 r e
          | pan v m1 =>
            cases u with
            | none => exact evLeave_le h hn ds (some v) m1 r e
            | some x => cases e
theorem evBodyD_le {c c' : Call} (h : CallLe c c') {n n' : Nat} (hn : n ≤ n') {F : IFun} {D : List (Nat × Option Nat × IFun)} {args : List EV} {m : Mem} {r : Fin} (e : evBodyD c n F D args m = some r) : evBodyD c' n' F D args m = some r := by
  unfold evBodyD at e ⊢
  cases hl : args.length.ble F.ntmps <;> simp only [hl, cond_true, cond_false, reduceCtorEq] at e ⊢
  cases hc : evCode c n F.body ⟨args0 args 0 .leaf, []⟩ m with
  | none => simp [hc] at e
  | some o =>
    rw [evCode_le h hn _ _ _ _ hc]
    simp only [hc] at e
    cases o with
    | norm fr m => exact evLeave_le h hn _ _ _ _ e
    | ret fr m => exact evLeave_le h hn _ _ _ _ e
    | pan v fr m => exact evLeave_le h hn _ _ _ _ e
    | exit id fr m => exact e
theorem evFun_le (T : Nat → Option Ent) : ∀ (k k' : Nat), k ≤ k' → CallLe (evFun T k) (evFun T k')
  | 0, k', _ => fun f a m r e => by simp [evFun] at e
  | k + 1, 0, h => by omega
  | k + 1, k' + 1, h => fun f a m r e => by
    simp only [evFun] at e ⊢
    cases hT : T f with
    | none => simp [hT] at e
    | some x =>
      simp only [hT] at e ⊢
      cases x with
      | go F => simp only [evEnt] at e ⊢; exact evBody_le (evFun_le T k k' (by omega)) (by omega) e
      | ext g => exact e
      | pure g => exact e
      | spec g => exact e
      | dgo F D => simp only [evEnt] at e ⊢; exact evBodyD_le (evFun_le T k k' (by omega)) (by omega) e

mutual
def Flat : EV → Bool
  | .ptr _ _ | .slice _ _ _ _ | .map _ | .fz _ _ _ | .fptr _ _ _ _ => false
  | .func _ x y => flats x && flats y
  | .iface _ v => Flat v
  | .agg x | .tuple x => flats x
  | _ => true
def flats : List EV → Bool
  | [] => true
  | v :: x => Flat v && flats x
end
mutual
theorem VR.flat {ρ ρ' : Ren} : ∀ {v : EV} {v' : Value}, VR ρ v v' → Flat v = true → VR ρ' v v'
  | _, _, .undef, _ => .undef
  | _, _, .bool b, _ => .bool b
  | _, _, .int k n, _ => .int k n
  | _, _, .str s, _ => .str s
  | _, _, .nilptr, _ => .nilptr
  | _, _, .ptr _, h => by simp [Flat] at h
  | _, _, .nilslice, _ => .nilslice
  | _, _, .slice _ _ _ _, h => by simp [Flat] at h
  | _, _, .sliceC _ _ _, h => by simp [Flat] at h
  | _, _, .sliceE, h => by simp [Flat] at h
  | _, _, .nilmap, _ => .nilmap
  | _, _, .map _, h => by simp [Flat] at h
  | _, _, .nilfunc, _ => .nilfunc
  | _, _, .func hx hy, h => by simp only [Flat, Bool.and_eq_true] at h; exact .func (VRs.flat hx h.1) (VRs.flat hy h.2)
  | _, _, .niliface, _ => .niliface
  | _, _, .iface hv, h => .iface (VR.flat hv (by simpa only [Flat] using h))
  | _, _, .agg hx hf, h => .agg (VRs.flat hx (by simpa only [Flat] using h)) hf
  | _, _, .tuple hx, h => .tuple (VRs.flat hx (by simpa only [Flat] using h))
theorem VRs.flat {ρ ρ' : Ren} : ∀ {x : List EV} {x' : List Value}, VRs ρ x x' → flats x = true → VRs ρ' x x'
  | _, _, .nil, _ => .nil
  | _, _, .cons hv hs, h => by simp only [flats, Bool.and_eq_true] at h; exact .cons (VR.flat hv h.1) (VRs.flat hs h.2)
end
theorem VR.str_any {ρ ρ' : Ren} {s : List UInt8} {v' : Value} (h : VR ρ' (.str s) v') : VR ρ (.str s) v' := by
  generalize hx : EV.str s = x at h
  cases h <;> cases hx
  exact .str _
theorem VR.of_empty {ρ ρ' : Ren} {b off : Nat} {v' : Value} (h : VR ρ' (.slice b off 0 (some 0)) v') : VR ρ (.slice b off 0 (some 0)) v' := by
  cases h with
  | sliceE => exact .sliceE
  | sliceC h' hc ho => exact .sliceE
mutual
theorem VR.back {ρ ρ' : Ren} (e : Ext ρ ρ') : ∀ {v : EV} {u v' : Value}, VR ρ v u → VR ρ' v v' → VR ρ v v'
  | _, _, _, .undef, h => by cases h; exact .undef
  | _, _, _, .bool _, h => by cases h; exact .bool _
  | _, _, _, .int _ _, h => by cases h; exact .int _ _
  | _, _, _, .str _, h => h.str_any
  | _, _, _, .nilptr, h => by cases h; exact .nilptr
  | _, _, _, .ptr h, h2 => by cases h2 with | ptr h' => have := e _ _ h; rw [h'] at this; cases this; exact .ptr h
  | _, _, _, .nilslice, h => by cases h; exact .nilslice
  | _, _, _, .slice h _ _ _, h2 => by cases h2 with | slice h' hc ho hr => have := e _ _ h; rw [h'] at this; cases this; exact .slice h hc ho hr
  | _, _, _, .sliceC h _ _, h2 => by
    cases h2 with
    | sliceC h' hc ho => have := e _ _ h; rw [h'] at this; cases this; exact .sliceC h hc ho
    | sliceE => exact .sliceE
  | _, _, _, .sliceE, h2 => h2.of_empty
  | _, _, _, .nilmap, h => by cases h; exact .nilmap
  | _, _, _, .map h, h2 => by cases h2 with | map h' => have := e _ _ h; rw [h'] at this; cases this; exact .map h
  | _, _, _, .nilfunc, h => by cases h; exact .nilfunc
  | _, _, _, .func hx hy, h2 => by cases h2 with | func hx' hy' => exact .func (VRs.back e hx hx') (VRs.back e hy hy')
  | _, _, _, .niliface, h => by cases h; exact .niliface
  | _, _, _, .iface h, h2 => by cases h2 with | iface h' => exact .iface (VR.back e h h')
  | _, _, _, .agg h _, h2 => by cases h2 with | agg h' hf => exact .agg (VRs.back e h h') hf
  | _, _, _, .tuple h, h2 => by cases h2 with | tuple h' => exact .tuple (VRs.back e h h')
theorem VRs.back {ρ ρ' : Ren} (e : Ext ρ ρ') : ∀ {x : List EV} {u v : List Value}, VRs ρ x u → VRs ρ' x v → VRs ρ x v
  | _, _, _, .nil, h => by cases h; exact .nil
  | _, _, _, .cons h hs, h2 => by cases h2 with | cons h' hs' => exact .cons (VR.back e h h') (VRs.back e hs hs')
end
def lookG (g : List EV → Mem → Option EV) : List EV → Mem → Option Fin := fun args m => (g args m).map fun v => .ret v m
def up (T : Nat → Option Ent) (f : Nat) (e : Ent) : Nat → Option Ent := fun g => bif g.beq f then some e else T g
end Go.Proofs.YtblcomejcahkdaaDoor.Ev
end
section
namespace Go.Proofs.YtblcomejcahkdaaDoor.Ev
open Go

open Classical in
noncomputable def lim {α : Type} (g : Nat → Option α) : Option α := if h : ∃ r, ∃ k, g k = some r then some (Classical.choose h) else none
def Mono {α : Type} (g : Nat → Option α) : Prop := ∀ k k' r, k ≤ k' → g k = some r → g k' = some r
theorem Mono.uniq {α : Type} {g : Nat → Option α} (h : Mono g) {k k' : Nat} {r r' : α} (e : g k = some r) (e' : g k' = some r') : r = r' := by
  have h1 := h k (max k k') r (Nat.le_max_left _ _) e
  have h2 := h k' (max k k') r' (Nat.le_max_right _ _) e'
  rw [h1] at h2; cases h2; rfl
theorem lim_iff {α : Type} {g : Nat → Option α} (h : Mono g) {r : α} : lim g = some r ↔ ∃ k, g k = some r := by
  unfold lim
  constructor
  · intro e
    split at e
    · rename_i hx
      cases e
      exact Classical.choose_spec hx
    · cases e
  · rintro ⟨k, hk⟩
    have hx : ∃ r, ∃ k, g k = some r := ⟨r, k, hk⟩
    rw [dif_pos hx]
    obtain ⟨k', hk'⟩ := Classical.choose_spec hx
    rw [h.uniq hk hk']
theorem opt_ext {α : Type} {a b : Option α} (h : ∀ r, a = some r ↔ b = some r) : a = b := by
  cases b with
  | some y => exact (h y).2 rfl
  | none =>
    cases a with
    | none => rfl
    | some x => exact absurd ((h x).1 rfl) (by simp)

section
variable (T : Nat → Option Ent)
noncomputable def run (f : Nat) (args : List EV) (m : Mem) : Option Fin := lim fun k => evFun T k f args m
noncomputable def exec (c : ICode) (fr : Fr) (m : Mem) : Option Out := lim fun k => evCode (evFun T k) k c fr m
noncomputable def oprs (l : List IOper) (fr : Fr) (m : Mem) : Option Out := lim fun k => evOps (evFun T k) l fr m
noncomputable def drw (chk : List (Nat × Nat)) (B0 : Nat) (l : List IOper) (i : Nat) (fr : Fr) (m : Mem) (sn : List (Nat × Mem)) (se : List Seen) : Option Out := lim fun k => evDraw (evFun T k) chk B0 l i fr m sn se
end
section
variable {T : Nat → Option Ent}
theorem mono_run {f : Nat} {args : List EV} {m : Mem} : Mono fun k => evFun T k f args m := fun k k' _ h e => evFun_le T k k' h _ _ _ _ e
theorem mono_exec {c : ICode} {fr : Fr} {m : Mem} : Mono fun k => evCode (evFun T k) k c fr m := fun k k' _ h e => evCode_le (evFun_le T k k' h) h _ _ _ _ e
theorem mono_oprs {l : List IOper} {fr : Fr} {m : Mem} : Mono fun k => evOps (evFun T k) l fr m := fun k k' _ h e => evOps_le (evFun_le T k k' h) _ _ _ _ e
theorem mono_drw {chk : List (Nat × Nat)} {B0 : Nat} {l : List IOper} {i : Nat} {fr : Fr} {m : Mem} {sn : List (Nat × Mem)} {se : List Seen} : Mono fun k => evDraw (evFun T k) chk B0 l i fr m sn se := fun k k' _ h e => evDraw_le (evFun_le T k k' h) _ _ _ _ _ _ _ e
theorem run_iff {f : Nat} {args : List EV} {m : Mem} {r : Fin} : run T f args m = some r ↔ ∃ k, evFun T k f args m = some r := lim_iff mono_run
theorem exec_iff {c : ICode} {fr : Fr} {m : Mem} {r : Out} : exec T c fr m = some r ↔ ∃ k, evCode (evFun T k) k c fr m = some r := lim_iff mono_exec
theorem oprs_iff {l : List IOper} {fr : Fr} {m : Mem} {r : Out} : oprs T l fr m = some r ↔ ∃ k, evOps (evFun T k) l fr m = some r := lim_iff mono_oprs
theorem drw_iff {chk : List (Nat × Nat)} {B0 : Nat} {l : List IOper} {i : Nat} {fr : Fr} {m : Mem} {sn : List (Nat × Mem)} {se : List Seen} {r : Out} : drw T chk B0 l i fr m sn se = some r ↔ ∃ k, evDraw (evFun T k) chk B0 l i fr m sn se = some r := lim_iff mono_drw

theorem exec_skip {fr : Fr} {m : Mem} : exec T .skip fr m = some (.norm fr m) := exec_iff.2 ⟨0, rfl⟩
theorem exec_ret {fr : Fr} {m : Mem} : exec T .ret fr m = some (.ret fr m) := exec_iff.2 ⟨0, rfl⟩
theorem exec_exit {id : Nat} {fr : Fr} {m : Mem} : exec T (.exit id) fr m = some (.exit id fr m) := exec_iff.2 ⟨0, rfl⟩
theorem exec_region {l : List IOper} {fr : Fr} {m : Mem} : exec T (.region l) fr m = oprs T l fr m := rfl
theorem exec_draw {l : List IOper} {chk : List (Nat × Nat)} {fr : Fr} {m : Mem} : exec T (.draw l chk) fr m = drw T chk m.next l 0 fr ⟨m.next + l.length, m.tbl⟩ [] [] := rfl
def thenE (o : Option Out) (k : Fr → Mem → Option Out) : Option Out := match o with
  | some (.norm fr m) => k fr m
  | o => o
theorem exec_seq {a b : ICode} {fr : Fr} {m : Mem} : exec T (.seq a b) fr m = thenE (exec T a fr m) (exec T b) := by
  refine opt_ext fun r => ?_
  rw [exec_iff]
  constructor
  · rintro ⟨k, h⟩
    simp only [evCode] at h
    cases ha : evCode (evFun T k) k a fr m with
    | none => simp [ha] at h
    | some o =>
      rw [exec_iff.2 ⟨k, ha⟩]
      simp only [ha] at h
      cases o with
      | norm fr1 m1 => exact exec_iff.2 ⟨k, h⟩
      | exit id fr1 m1 => exact h
      | ret fr1 m1 => exact h
      | pan v fr1 m1 => exact h
  · intro h
    cases ha : exec T a fr m with
    | none => simp [ha, thenE] at h
    | some o =>
      obtain ⟨k1, h1⟩ := exec_iff.1 ha
      simp only [ha, thenE] at h
      cases o with
      | norm fr1 m1 =>
        obtain ⟨k2, h2⟩ := exec_iff.1 h
        refine ⟨max k1 k2, ?_⟩
        simp only [evCode]
        have e1 := mono_exec _ _ _ (Nat.le_max_left k1 k2) h1
        have e2 := mono_exec _ _ _ (Nat.le_max_right k1 k2) h2
        simp only at e1 e2
        rw [e1]; exact e2
      | exit id fr1 m1 => refine ⟨k1, ?_⟩; simp only [evCode, h1]; exact h
      | ret fr1 m1 => refine ⟨k1, ?_⟩; simp only [evCode, h1]; exact h
      | pan v fr1 m1 => refine ⟨k1, ?_⟩; simp only [evCode, h1]; exact h
theorem exec_cond {c : Opd} {a b : ICode} {fr : Fr} {m : Mem} {t : Bool} (h : fr.eval c = .bool t) : exec T (.cond c a b) fr m = bif t then exec T a fr m else exec T b fr m := by
  refine opt_ext fun r => ?_
  rw [exec_iff]
  simp only [evCode, h]
  cases t
  · simp only [cond_false]; exact exec_iff.symm
  · simp only [cond_true]; exact exec_iff.symm
def leaveE (id : Nat) (o : Option Out) : Option Out := match o with
  | some (.exit j fr m) => bif j.beq id then some (.norm fr m) else some (.exit j fr m)
  | o => o
theorem exec_block {id : Nat} {a : ICode} {fr : Fr} {m : Mem} : exec T (.block id a) fr m = leaveE id (exec T a fr m) := by
  refine opt_ext fun r => ?_
  rw [exec_iff]
  constructor
  · rintro ⟨k, h⟩
    simp only [evCode] at h
    cases ha : evCode (evFun T k) k a fr m with
    | none => simp [ha] at h
    | some o => rw [exec_iff.2 ⟨k, ha⟩]; rw [ha] at h; exact h
  · intro h
    cases ha : exec T a fr m with
    | none => simp [ha, leaveE] at h
    | some o =>
      obtain ⟨k1, h1⟩ := exec_iff.1 ha
      rw [ha] at h
      refine ⟨k1, ?_⟩; simp only [evCode, h1]; exact h
theorem exec_loop {a : ICode} {fr : Fr} {m : Mem} : exec T (.loop a) fr m = thenE (exec T a fr m) (exec T (.loop a)) := by
  refine opt_ext fun r => ?_
  rw [exec_iff]
  constructor
  · rintro ⟨k, h⟩
    simp only [evCode] at h
    cases k with
    | zero => simp [iter] at h
    | succ k =>
      have h' : (match evCode (evFun T (k + 1)) (k + 1) a fr m with | some (.norm fr m) => iter (evCode (evFun T (k + 1)) (k + 1) a) k fr m | o => o) = some r := by
        rw [← h]; rfl
      cases ha : evCode (evFun T (k + 1)) (k + 1) a fr m with
      | none => simp [ha] at h'
      | some o =>
        rw [exec_iff.2 ⟨k + 1, ha⟩]
        simp only [ha] at h'
        cases o with
        | norm fr1 m1 =>
          refine exec_iff.2 ⟨k + 1, ?_⟩
          simp only [evCode]
          exact iter_le (fun fr m r e => e) k (k + 1) (by omega) _ _ _ h'
        | exit id fr1 m1 => exact h'
        | ret fr1 m1 => exact h'
        | pan v fr1 m1 => exact h'
  · intro h
    cases ha : exec T a fr m with
    | none => simp [ha, thenE] at h
    | some o =>
      obtain ⟨k1, h1⟩ := exec_iff.1 ha
      simp only [ha, thenE] at h
      have key : ∀ k2, (∀ r1, iter (evCode (evFun T k2) k2 a) k2 fr m = some r1 → True) → True := fun _ _ => trivial
      cases o with
      | norm fr1 m1 =>
        obtain ⟨k2, h2⟩ := exec_iff.1 h
        simp only [evCode] at h2
        refine ⟨max k1 k2 + 1, ?_⟩
        have e1 := mono_exec _ _ _ (show k1 ≤ max k1 k2 + 1 by omega) h1
        simp only at e1
        simp only [evCode, iter, e1]
        exact iter_le (fun fr m r e => evCode_le (evFun_le T k2 (max k1 k2 + 1) (by omega)) (by omega) a fr m r e) k2 (max k1 k2) (by omega) _ _ _ h2
      | exit id fr1 m1 =>
        refine ⟨k1 + 1, ?_⟩
        have e1 := mono_exec _ _ _ (show k1 ≤ k1 + 1 by omega) h1
        simp only at e1
        simp only [evCode, iter, e1]; exact h
      | ret fr1 m1 =>
        refine ⟨k1 + 1, ?_⟩
        have e1 := mono_exec _ _ _ (show k1 ≤ k1 + 1 by omega) h1
        simp only at e1
        simp only [evCode, iter, e1]; exact h
      | pan v fr1 m1 =>
        refine ⟨k1 + 1, ?_⟩
        have e1 := mono_exec _ _ _ (show k1 ≤ k1 + 1 by omega) h1
        simp only at e1
        simp only [evCode, iter, e1]; exact h

theorem oprs_nil {fr : Fr} {m : Mem} : oprs T [] fr m = some (.norm fr m) := oprs_iff.2 ⟨0, rfl⟩
def thenV (o : Option R1) (k : EV → Mem → Option Out) : Option Out := match o with
  | some (.val v m) => k v m
  | none => none
def thenC (o : Option Fin) (fr : Fr) (k : EV → Mem → Option Out) : Option Out := match o with
  | some (.ret v m) => k v m
  | some (.pan v m) => some (.pan v fr m)
  | none => none
theorem oprs_val {d : Option Nat} {op : IOp} {l : List IOper} {fr : Fr} {m : Mem} : oprs T (⟨d, .val op, none⟩ :: l) fr m = thenV (evOp fr.eval op m) fun v m => oprs T l (fr.put d v) m := by
  refine opt_ext fun r => ?_
  rw [oprs_iff]
  simp only [evOps, wantedE]
  cases h : evOp fr.eval op m with
  | none => simp [thenV]
  | some q => obtain ⟨v, m1⟩ := q; simp only [thenV]; exact oprs_iff.symm
theorem oprs_guard {d : Option Nat} {op : XOp} {t : Nat} {w : Bool} {l : List IOper} {fr : Fr} {m : Mem} {b : Bool} (h : fr.get t = .bool b) :
    oprs T (⟨d, op, some (t, w)⟩ :: l) fr m = bif b == w then oprs T (⟨d, op, none⟩ :: l) fr m else oprs T l (fr.put d .undef) m := by
  refine opt_ext fun r => ?_
  rw [oprs_iff]
  simp only [evOps, wantedE, h]
  cases hb : b == w
  · simp only [cond_false]; exact oprs_iff.symm
  · simp only [cond_true]
    rw [oprs_iff]
    simp only [evOps, wantedE]
theorem oprs_panic {d : Option Nat} {x : Opd} {l : List IOper} {fr : Fr} {m : Mem} {t : Nat} {v : EV} (h : fr.eval x = .iface t v) : oprs T (⟨d, .panic x, none⟩ :: l) fr m = some (.pan (.iface t v) fr m) := by
  refine oprs_iff.2 ⟨0, ?_⟩
  simp only [evOps, wantedE, h]

def resE (F : IFun) (o : Option Out) : Option Fin := match o with
  | some (.norm fr m) | some (.ret fr m) => match fr.defers with
    | [] => (evResults fr m F.results).map fun vs => .ret (one vs) m
    | _ => none
  | some (.pan v fr m) => match fr.defers with
    | [] => some (.pan v m)
    | _ => none
  | _ => none
theorem run_go {f : Nat} {F : IFun} (hf : T f = some (.go F)) {args : List EV} {m : Mem} (hn : args.length ≤ F.ntmps) : run T f args m = resE F (exec T F.body ⟨args0 args 0 .leaf, []⟩ m) := by
  have hb : args.length.ble F.ntmps = true := Nat.ble_eq_true_of_le hn
  refine opt_ext fun r => ?_
  rw [run_iff]
  constructor
  · rintro ⟨k, h⟩
    cases k with
    | zero => simp [evFun] at h
    | succ k =>
      simp only [evFun, hf, evEnt, evBody, hb, cond_true] at h
      cases hc : evCode (evFun T k) k F.body ⟨args0 args 0 .leaf, []⟩ m with
      | none => simp [hc] at h
      | some o =>
        rw [exec_iff.2 ⟨k, hc⟩]
        simp only [hc] at h
        cases o <;> exact h
  · intro h
    cases hc : exec T F.body ⟨args0 args 0 .leaf, []⟩ m with
    | none => simp [hc, resE] at h
    | some o =>
      obtain ⟨k, hk⟩ := exec_iff.1 hc
      rw [hc] at h
      refine ⟨k + 1, ?_⟩
      simp only [evFun, hf, evEnt, evBody, hb, cond_true, hk]
      cases o <;> exact h
theorem run_spec {f : Nat} {g : List EV → Mem → Option Fin} (hf : T f = some (.spec g)) {args : List EV} {m : Mem} : run T f args m = g args m := by
  refine opt_ext fun r => ?_
  rw [run_iff]
  constructor
  · rintro ⟨k, h⟩
    cases k with
    | zero => simp [evFun] at h
    | succ k => simpa only [evFun, hf, evEnt] using h
  · intro h; exact ⟨1, by simpa only [evFun, hf, evEnt] using h⟩
theorem run_pure {f : Nat} {g : List EV → Option EV} (hf : T f = some (.pure g)) {args : List EV} {m : Mem} : run T f args m = (g args).map fun v => .ret v m := by
  refine opt_ext fun r => ?_
  rw [run_iff]
  constructor
  · rintro ⟨k, h⟩
    cases k with
    | zero => simp [evFun] at h
    | succ k => simpa only [evFun, hf, evEnt] using h
  · intro h; exact ⟨1, by simpa only [evFun, hf, evEnt] using h⟩
section
variable (T)
noncomputable def bodyL (F : IFun) (args : List EV) (m : Mem) : Option Fin := lim fun k => evBody (evFun T k) k F args m
noncomputable def bodyRL (d : Nat) (F : IFun) (args : List EV) (u : Option EV) (m : Mem) : Option Mem := lim fun k => evBodyR (evFun T k) k d F args u m
noncomputable def leaveL (rs : List IRes) (D : List (Nat × Option Nat × IFun)) (fr : Fr) (ds : List (Nat × List EV)) (u : Option EV) (m : Mem) : Option Fin := lim fun k => evLeave (evFun T k) k rs D fr ds u m
end
theorem mono_bodyL {F : IFun} {args : List EV} {m : Mem} : Mono fun k => evBody (evFun T k) k F args m := fun k k' _ h e => evBody_le (evFun_le T k k' h) h e
theorem mono_bodyRL {d : Nat} {F : IFun} {args : List EV} {u : Option EV} {m : Mem} : Mono fun k => evBodyR (evFun T k) k d F args u m := fun k k' _ h e => evBodyR_le (evFun_le T k k' h) h e
theorem mono_leaveL {rs : List IRes} {D : List (Nat × Option Nat × IFun)} {fr : Fr} {ds : List (Nat × List EV)} {u : Option EV} {m : Mem} : Mono fun k => evLeave (evFun T k) k rs D fr ds u m := fun k k' _ h e => evLeave_le (evFun_le T k k' h) h _ _ _ _ e
theorem bodyL_iff {F : IFun} {args : List EV} {m : Mem} {r : Fin} : bodyL T F args m = some r ↔ ∃ k, evBody (evFun T k) k F args m = some r := lim_iff mono_bodyL
theorem bodyRL_iff {d : Nat} {F : IFun} {args : List EV} {u : Option EV} {m : Mem} {r : Mem} : bodyRL T d F args u m = some r ↔ ∃ k, evBodyR (evFun T k) k d F args u m = some r := lim_iff mono_bodyRL
theorem leaveL_iff {rs : List IRes} {D : List (Nat × Option Nat × IFun)} {fr : Fr} {ds : List (Nat × List EV)} {u : Option EV} {m : Mem} {r : Fin} : leaveL T rs D fr ds u m = some r ↔ ∃ k, evLeave (evFun T k) k rs D fr ds u m = some r := lim_iff mono_leaveL
theorem bodyL_eq {F : IFun} {args : List EV} {m : Mem} (hn : args.length ≤ F.ntmps) : bodyL T F args m = resE F (exec T F.body ⟨args0 args 0 .leaf, []⟩ m) := by
  have hb : args.length.ble F.ntmps = true := Nat.ble_eq_true_of_le hn
  refine opt_ext fun r => ?_
  rw [bodyL_iff]
  constructor
  · rintro ⟨k, h⟩
    simp only [evBody, hb, cond_true] at h
    cases hc : evCode (evFun T k) k F.body ⟨args0 args 0 .leaf, []⟩ m with
    | none => simp [hc] at h
    | some o =>
      rw [exec_iff.2 ⟨k, hc⟩]
      simp only [hc] at h
      cases o <;> exact h
  · intro h
    cases hc : exec T F.body ⟨args0 args 0 .leaf, []⟩ m with
    | none => simp [hc, resE] at h
    | some o =>
      obtain ⟨k, hk⟩ := exec_iff.1 hc
      rw [hc] at h
      refine ⟨k, ?_⟩
      simp only [evBody, hb, cond_true, hk]
      cases o <;> exact h
def resM (rs : List IRes) (o : Option Out) : Option Mem := match o with
  | some (.norm fr m) => match fr.defers with
    | [] => (evResults fr m rs).map fun _ => m
    | _ => none
  | some (.ret fr m) => match fr.defers with
    | [] => (evResults fr m rs).map fun _ => m
    | _ => none
  | _ => none
theorem bodyRL_eq {d : Nat} {F : IFun} {args : List EV} {u : Option EV} {m : Mem} (hn : args.length ≤ F.ntmps) : bodyRL T d F args u m = resM F.results (exec T F.body (Fr.set ⟨args0 args 0 .leaf, []⟩ d (u.getD .niliface)) m) := by
  have hb : args.length.ble F.ntmps = true := Nat.ble_eq_true_of_le hn
  refine opt_ext fun r => ?_
  rw [bodyRL_iff]
  constructor
  · rintro ⟨k, h⟩
    simp only [evBodyR, hb, cond_true] at h
    cases hc : evCode (evFun T k) k F.body (Fr.set ⟨args0 args 0 .leaf, []⟩ d (u.getD .niliface)) m with
    | none => simp [hc] at h
    | some o =>
      rw [exec_iff.2 ⟨k, hc⟩]
      simp only [hc] at h
      cases o <;> exact h
  · intro h
    cases hc : exec T F.body (Fr.set ⟨args0 args 0 .leaf, []⟩ d (u.getD .niliface)) m with
    | none => simp [hc, resM] at h
    | some o =>
      obtain ⟨k, hk⟩ := exec_iff.1 hc
      rw [hc] at h
      refine ⟨k, ?_⟩
      simp only [evBodyR, hb, cond_true, hk]
      cases o <;> exact h
theorem leaveL_nil {rs : List IRes} {D : List (Nat × Option Nat × IFun)} {fr : Fr} {m : Mem} : leaveL T rs D fr [] none m = (evResults fr m rs).map fun vs => .ret (one vs) m := by
  refine opt_ext fun r => ?_
  rw [leaveL_iff]
  simp only [evLeave, exists_const]
theorem leaveL_pan {rs : List IRes} {D : List (Nat × Option Nat × IFun)} {fr : Fr} {v : EV} {m : Mem} : leaveL T rs D fr [] (some v) m = some (.pan v m) := by
  refine opt_ext fun r => ?_
  rw [leaveL_iff]
  simp only [evLeave, exists_const]
theorem leaveL_rec {rs : List IRes} {D : List (Nat × Option Nat × IFun)} {fr : Fr} {g d : Nat} {F : IFun} {args : List EV} {ds : List (Nat × List EV)} {u : Option EV} {m : Mem} (hd : dfind g D = some (some d, F)) :
    leaveL T rs D fr ((g, args) :: ds) u m = (bodyRL T d F args u m).bind fun m => leaveL T rs D fr ds none m := by
  refine opt_ext fun r => ?_
  rw [leaveL_iff]
  simp only [evLeave, hd]
  constructor
  · rintro ⟨k, h⟩
    cases hb : evBodyR (evFun T k) k d F args u m with
    | none => simp [hb] at h
    | some m1 =>
      simp only [hb] at h
      rw [bodyRL_iff.2 ⟨k, hb⟩]
      exact leaveL_iff.2 ⟨k, h⟩
  · intro h
    obtain ⟨m1, h1, h2⟩ := Option.bind_eq_some_iff.1 h
    obtain ⟨k1, e1⟩ := bodyRL_iff.1 h1
    obtain ⟨k2, e2⟩ := leaveL_iff.1 h2
    refine ⟨max k1 k2, ?_⟩
    have g1 := mono_bodyRL _ _ _ (Nat.le_max_left k1 k2) e1
    have g2 := mono_leaveL _ _ _ (Nat.le_max_right k1 k2) e2
    simp only at g1 g2
    simp only [g1]; exact g2
def leaveF (u : Option EV) (k : Option EV → Mem → Option Fin) : Option Fin → Option Fin
  | some (.ret _ m) => k u m
  | some (.pan v m) => match u with
    | none => k (some v) m
    | some _ => none
  | none => none
theorem leaveL_call {rs : List IRes} {D : List (Nat × Option Nat × IFun)} {fr : Fr} {g : Nat} {F : IFun} {args : List EV} {ds : List (Nat × List EV)} {u : Option EV} {m : Mem} (hd : dfind g D = some (none, F)) :
    leaveL T rs D fr ((g, args) :: ds) u m = leaveF u (fun u m => leaveL T rs D fr ds u m) (bodyL T F args m) := by
  refine opt_ext fun r => ?_
  rw [leaveL_iff]
  simp only [evLeave, hd]
  constructor
  · rintro ⟨k, h⟩
    cases hb : evBody (evFun T k) k F args m with
    | none => simp [hb] at h
    | some fin =>
      simp only [hb] at h
      rw [bodyL_iff.2 ⟨k, hb⟩]
      cases fin with
      | ret v m1 => exact leaveL_iff.2 ⟨k, h⟩
      | pan v m1 =>
        cases u with
        | none => exact leaveL_iff.2 ⟨k, h⟩
        | some x => cases h
  · intro h
    cases hb : bodyL T F args m with
    | none => simp [hb, leaveF] at h
    | some fin =>
      obtain ⟨k1, e1⟩ := bodyL_iff.1 hb
      rw [hb] at h
      have fin2 : ∀ {u2 : Option EV} {m2 : Mem}, leaveL T rs D fr ds u2 m2 = some r → ∃ k2, k1 ≤ k2 ∧ evLeave (evFun T k2) k2 rs D fr ds u2 m2 = some r := fun e => by
        obtain ⟨k2, e2⟩ := leaveL_iff.1 e
        exact ⟨max k1 k2, Nat.le_max_left _ _, mono_leaveL _ _ _ (Nat.le_max_right k1 k2) e2⟩
      cases fin with
      | ret v m1 =>
        obtain ⟨k2, hk, e2⟩ := fin2 h
        have g1 := mono_bodyL _ _ _ hk e1
        simp only at g1
        exact ⟨k2, by simp only [g1]; exact e2⟩
      | pan v m1 =>
        cases u with
        | none =>
          obtain ⟨k2, hk, e2⟩ := fin2 h
          have g1 := mono_bodyL _ _ _ hk e1
          simp only at g1
          exact ⟨k2, by simp only [g1]; exact e2⟩
        | some x => cases h
noncomputable def resD (T : Nat → Option Ent) (rs : List IRes) (D : List (Nat × Option Nat × IFun)) (o : Option Out) : Option Fin := match o with
  | some (.norm fr m) => leaveL T rs D fr fr.defers none m
  | some (.ret fr m) => leaveL T rs D fr fr.defers none m
  | some (.pan v fr m) => leaveL T rs D fr fr.defers (some v) m
  | _ => none
theorem run_dgo {f : Nat} {F : IFun} {D : List (Nat × Option Nat × IFun)} (hf : T f = some (.dgo F D)) {args : List EV} {m : Mem} (hn : args.length ≤ F.ntmps) : run T f args m = resD T F.results D (exec T F.body ⟨args0 args 0 .leaf, []⟩ m) := by
  have hb : args.length.ble F.ntmps = true := Nat.ble_eq_true_of_le hn
  refine opt_ext fun r => ?_
  rw [run_iff]
  constructor
  · rintro ⟨k, h⟩
    cases k with
    | zero => simp [evFun] at h
    | succ k =>
      simp only [evFun, hf, evEnt, evBodyD, hb, cond_true] at h
      cases hc : evCode (evFun T k) k F.body ⟨args0 args 0 .leaf, []⟩ m with
      | none => simp [hc] at h
      | some o =>
        rw [exec_iff.2 ⟨k, hc⟩]
        simp only [hc] at h
        cases o with
        | norm fr m1 => exact leaveL_iff.2 ⟨k, h⟩
        | ret fr m1 => exact leaveL_iff.2 ⟨k, h⟩
        | pan v fr m1 => exact leaveL_iff.2 ⟨k, h⟩
        | exit id fr m1 => cases h
  · intro h
    cases hc : exec T F.body ⟨args0 args 0 .leaf, []⟩ m with
    | none => simp [hc, resD] at h
    | some o =>
      obtain ⟨k1, e1⟩ := exec_iff.1 hc
      rw [hc] at h
      have fin2 : ∀ {fr : Fr} {ds : List (Nat × List EV)} {u2 : Option EV} {m2 : Mem}, leaveL T F.results D fr ds u2 m2 = some r → ∃ k2, k1 ≤ k2 ∧ evLeave (evFun T k2) k2 F.results D fr ds u2 m2 = some r := fun e => by
        obtain ⟨k2, e2⟩ := leaveL_iff.1 e
        exact ⟨max k1 k2, Nat.le_max_left _ _, mono_leaveL _ _ _ (Nat.le_max_right k1 k2) e2⟩
      cases o with
      | exit id fr m1 => cases h
      | norm fr m1 =>
        obtain ⟨k2, hk, e2⟩ := fin2 h
        have g1 := mono_exec _ _ _ hk e1
        simp only at g1
        exact ⟨k2 + 1, by simp only [evFun, hf, evEnt, evBodyD, hb, cond_true, g1]; exact e2⟩
      | ret fr m1 =>
        obtain ⟨k2, hk, e2⟩ := fin2 h
        have g1 := mono_exec _ _ _ hk e1
        simp only at g1
        exact ⟨k2 + 1, by simp only [evFun, hf, evEnt, evBodyD, hb, cond_true, g1]; exact e2⟩
      | pan v fr m1 =>
        obtain ⟨k2, hk, e2⟩ := fin2 h
        have g1 := mono_exec _ _ _ hk e1
        simp only at g1
        exact ⟨k2 + 1, by simp only [evFun, hf, evEnt, evBodyD, hb, cond_true, g1]; exact e2⟩
end
end Go.Proofs.YtblcomejcahkdaaDoor.Ev
end
section
namespace Go.Proofs.YtblcomejcahkdaaDoor.Ev
open Go

def fr00 : Fr := ⟨.leaf, []⟩
theorem fr00_get (t : Nat) : fr00.get t = .undef := by unfold Fr.get fr00; simp only [Tr.get_leaf]; rfl
theorem fr00_defers : fr00.defers = [] := rfl
def selE (b : Bool) (v r : EV) : EV := bif b then v else r
@[congr] theorem selE_congr {b b' : Bool} {v r : EV} (h : b = b') : selE b v r = selE b' v r := by rw [h]
theorem selE_t {v r : EV} : selE true v r = v := rfl
theorem get_set' (fr : Fr) (d t : Nat) (v : EV) : (fr.set d v).get t = selE (t == d) v (fr.get t) := by
  rw [Fr.get_set]
  by_cases h : t = d
  · simp [selE, h]
  · simp [selE, h, beq_eq_false_iff_ne.2 h]
theorem selE_f {v r : EV} : selE false v r = r := rfl
def argsF : List EV → Nat → Fr → Fr
  | [], _, fr => fr
  | v :: r, i, fr => argsF r (i + 1) (fr.set i v)
theorem argsF_eq : ∀ (l : List EV) (i : Nat) (t : Tr EV), argsF l i ⟨t, []⟩ = ⟨args0 l i t, []⟩
  | [], i, t => rfl
  | v :: l, i, t => by simp only [argsF, args0, Fr.set]; exact argsF_eq l (i + 1) _
theorem put_some (fr : Fr) (d : Nat) (v : EV) : fr.put (some d) v = fr.set d v := rfl
theorem put_none (fr : Fr) (v : EV) : fr.put none v = fr := rfl
theorem set_defers (fr : Fr) (d : Nat) (v : EV) : (fr.set d v).defers = fr.defers := rfl
theorem eval_tmp (fr : Fr) (t : Nat) : fr.eval (.tmp t) = fr.get t := rfl
theorem eval_const (fr : Fr) (v : EV) : fr.eval (.const v) = v := rfl

theorem ofEV_some (m : Mem) (v : EV) : ofEV m (some v) = some (.val v m) := rfl
theorem ofEM_some (m : Mem) (v : EV) : ofEM (some (v, m)) = some (.val v m) := rfl
theorem ofM_some (m : Mem) : ofM (some m) = some (.val .undef m) := rfl
@[congr] theorem thenV_congr {o o' : Option R1} {k : EV → Mem → Option Out} (h : o = o') : thenV o k = thenV o' k := by rw [h]
@[congr] theorem thenC_congr {o o' : Option Fin} {fr : Fr} {k : EV → Mem → Option Out} (h : o = o') : thenC o fr k = thenC o' fr k := by rw [h]
@[congr] theorem thenE_congr {o o' : Option Out} {k : Fr → Mem → Option Out} (h : o = o') : thenE o k = thenE o' k := by rw [h]
theorem thenV_some {v : EV} {m : Mem} {k : EV → Mem → Option Out} : thenV (some (.val v m)) k = k v m := rfl
theorem thenC_ret {v : EV} {m : Mem} {fr : Fr} {k : EV → Mem → Option Out} : thenC (some (.ret v m)) fr k = k v m := rfl
theorem thenE_norm {fr : Fr} {m : Mem} {k : Fr → Mem → Option Out} : thenE (some (.norm fr m)) k = k fr m := rfl
theorem thenE_ret {fr : Fr} {m : Mem} {k : Fr → Mem → Option Out} : thenE (some (.ret fr m)) k = some (.ret fr m) := rfl
theorem thenE_exit {id : Nat} {fr : Fr} {m : Mem} {k : Fr → Mem → Option Out} : thenE (some (.exit id fr m)) k = some (.exit id fr m) := rfl
theorem leave_norm {id : Nat} {fr : Fr} {m : Mem} : leaveE id (some (.norm fr m)) = some (.norm fr m) := rfl
theorem leave_ret {id : Nat} {fr : Fr} {m : Mem} : leaveE id (some (.ret fr m)) = some (.ret fr m) := rfl
def selO (b : Bool) (x y : Option Out) : Option Out := bif b then x else y
@[congr] theorem selO_congr {b b' : Bool} {x y : Option Out} (h : b = b') : selO b x y = selO b' x y := by rw [h]
theorem selO_t {x y : Option Out} : selO true x y = x := rfl
theorem selO_f {x y : Option Out} : selO false x y = y := rfl
theorem leave_exit {id j : Nat} {fr : Fr} {m : Mem} : leaveE id (some (.exit j fr m)) = selO (j == id) (some (.norm fr m)) (some (.exit j fr m)) := by
  by_cases h : j = id
  · subst h; simp [leaveE, selO]
  · simp [leaveE, selO, beq_ff h, beq_eq_false_iff_ne.2 h]
def resR (rs : List IRes) (o : Option Out) : Option Fin := match o with
  | some (.norm fr m) | some (.ret fr m) => match fr.defers with
    | [] => (evResults fr m rs).map fun vs => .ret (one vs) m
    | _ => none
  | some (.pan v fr m) => match fr.defers with
    | [] => some (.pan v m)
    | _ => none
  | _ => none
theorem resE_eq (F : IFun) (o : Option Out) : resE F o = resR F.results o := by cases o with | none => rfl | some o => cases o <;> rfl
theorem resR_ret {rs : List IRes} {fr : Fr} {m : Mem} : resR rs (some (.ret fr m)) = match fr.defers with | [] => (evResults fr m rs).map fun vs => .ret (one vs) m | _ => none := rfl
theorem resR_norm {rs : List IRes} {fr : Fr} {m : Mem} : resR rs (some (.norm fr m)) = match fr.defers with | [] => (evResults fr m rs).map fun vs => .ret (one vs) m | _ => none := rfl
theorem resR_pan {rs : List IRes} {fr : Fr} {m : Mem} {v : EV} : resR rs (some (.pan v fr m)) = match fr.defers with | [] => some (.pan v m) | _ => none := rfl
theorem res_nil {fr : Fr} {m : Mem} : evResults fr m [] = some [] := rfl
theorem res_tmp {fr : Fr} {m : Mem} {t : Nat} {rs : List IRes} : evResults fr m (.tmp t :: rs) = (evResults fr m rs).map (fr.get t :: ·) := rfl
theorem one_one (v : EV) : one [v] = v := rfl
theorem one_two (v u : EV) (l : List EV) : one (v :: u :: l) = .tuple (v :: u :: l) := rfl
theorem one_nil : one [] = .tuple [] := rfl
section
variable {k l : IntKind} {a b : Int}
def iand (k : IntKind) (x y : Int) : Int := k.wrap (BitVec.ofInt k.bits x &&& BitVec.ofInt k.bits y).toNat
def ior (k : IntKind) (x y : Int) : Int := k.wrap (BitVec.ofInt k.bits x ||| BitVec.ofInt k.bits y).toNat
def ixor (k : IntKind) (x y : Int) : Int := k.wrap (BitVec.ofInt k.bits x ^^^ BitVec.ofInt k.bits y).toNat
def iandNot (k : IntKind) (x y : Int) : Int := k.wrap (BitVec.ofInt k.bits x &&& ~~~BitVec.ofInt k.bits y).toNat
theorem bin_add : evBin .add (.int k a) (.int k b) = some (.int k (k.wrap (a + b))) := by simp only [evBin, beq_self, cond_true, evInt]
theorem bin_sub : evBin .sub (.int k a) (.int k b) = some (.int k (k.wrap (a - b))) := by simp only [evBin, beq_self, cond_true, evInt]
theorem bin_mul : evBin .mul (.int k a) (.int k b) = some (.int k (k.wrap (a * b))) := by simp only [evBin, beq_self, cond_true, evInt]
theorem bin_quo : evBin .quo (.int k a) (.int k b) = if b = 0 then none else some (.int k (k.wrap (a.tdiv b))) := by simp only [evBin, beq_self, cond_true, evInt]
theorem bin_rem : evBin .rem (.int k a) (.int k b) = if b = 0 then none else some (.int k (a.tmod b)) := by simp only [evBin, beq_self, cond_true, evInt]
theorem bin_and : evBin .and (.int k a) (.int k b) = some (.int k (iand k a b)) := by simp only [evBin, beq_self, cond_true, evInt, evBits, Option.map_some, iand]
theorem bin_or : evBin .or (.int k a) (.int k b) = some (.int k (ior k a b)) := by simp only [evBin, beq_self, cond_true, evInt, evBits, Option.map_some, ior]
theorem bin_xor : evBin .xor (.int k a) (.int k b) = some (.int k (ixor k a b)) := by simp only [evBin, beq_self, cond_true, evInt, evBits, Option.map_some, ixor]
theorem bin_andNot : evBin .andNot (.int k a) (.int k b) = some (.int k (iandNot k a b)) := by simp only [evBin, beq_self, cond_true, evInt, evBits, Option.map_some, iandNot]
theorem bin_lss : evBin .lss (.int k a) (.int k b) = some (.bool (decide (a < b))) := by simp only [evBin, beq_self, cond_true, evInt]
theorem bin_leq : evBin .leq (.int k a) (.int k b) = some (.bool (decide (a ≤ b))) := by simp only [evBin, beq_self, cond_true, evInt]
theorem bin_gtr : evBin .gtr (.int k a) (.int k b) = some (.bool (decide (b < a))) := by simp only [evBin, beq_self, cond_true, evInt]
theorem bin_geq : evBin .geq (.int k a) (.int k b) = some (.bool (decide (b ≤ a))) := by simp only [evBin, beq_self, cond_true, evInt]
theorem bin_shl : evBin .shl (.int k a) (.int l b) = if b < 0 then none else some (.int k (k.wrap (a * 2 ^ min b.toNat k.bits))) := by simp only [evBin, evShift]
theorem bin_shr : evBin .shr (.int k a) (.int l b) = if b < 0 then none else some (.int k (a.fdiv (2 ^ min b.toNat k.bits))) := by simp only [evBin, evShift]
theorem bin_shl_i64 (h1 : 0 ≤ b) (h2 : b < 64) : evBin .shl (.int .i64 a) (.int l b) = some (.int .i64 (IntKind.i64.wrap (a * 2 ^ b.toNat))) := by
  rw [bin_shl, if_neg (by omega), show IntKind.i64.bits = 64 from rfl, Nat.min_eq_left (by omega)]
theorem bin_shr_i64 (h1 : 0 ≤ b) (h2 : b < 64) : evBin .shr (.int .i64 a) (.int l b) = some (.int .i64 (a.fdiv (2 ^ b.toNat))) := by
  rw [bin_shr, if_neg (by omega), show IntKind.i64.bits = 64 from rfl, Nat.min_eq_left (by omega)]
theorem bin_shl_u64 (h1 : 0 ≤ b) (h2 : b < 64) : evBin .shl (.int .u64 a) (.int l b) = some (.int .u64 (IntKind.u64.wrap (a * 2 ^ b.toNat))) := by
  rw [bin_shl, if_neg (by omega), show IntKind.u64.bits = 64 from rfl, Nat.min_eq_left (by omega)]
theorem bin_shr_u64 (h1 : 0 ≤ b) (h2 : b < 64) : evBin .shr (.int .u64 a) (.int l b) = some (.int .u64 (a.fdiv (2 ^ b.toNat))) := by
  rw [bin_shr, if_neg (by omega), show IntKind.u64.bits = 64 from rfl, Nat.min_eq_left (by omega)]
theorem bin_cat {a b : List UInt8} : evBin .add (.str a) (.str b) = bif (a.length + b.length).ble 4294967296 then some (.str (a ++ b)) else none := rfl
theorem eq_int : evEq (.prim 1) (.int k a) (.int k b) = some (decide (a = b)) := by simp only [evEq, evEqPrim, beq_self, cond_true]
theorem un_neg : evUn .neg (.int k a) = some (.int k (k.wrap (0 - a))) := rfl
theorem cv_int {m : Mem} : evConv (.int l) m (.int k a) = some (.int l (l.wrap a), m) := rfl
end
theorem evOp_mov {ρ : Opd → EV} {m : Mem} (x : Opd) : evOp ρ (.mov x) m = some (.val (ρ x) m) := rfl
theorem evOp_build {ρ : Opd → EV} {m : Mem} (zero : List EV) (parts : List (Nat × Nat × Opd)) : evOp ρ (.build zero parts) m = ofEV m ((fillIn zero (parts.map fun p => (p.1, p.2.1, ρ p.2.2))).map .agg) := rfl
theorem evOp_load {ρ : Opd → EV} {m : Mem} (agg : Option Nat) (a : Opd) : evOp ρ (.load agg a) m = ofEV m (m.load agg (ρ a)) := rfl
theorem evOp_store {ρ : Opd → EV} {m : Mem} (size : Nat) (a x : Opd) : evOp ρ (.store size a x) m = ofM (m.store size (ρ a) (ρ x)) := rfl
theorem evOp_nilck {ρ : Opd → EV} {m : Mem} (x : Opd) : evOp ρ (.nilck x) m = match ρ x with
    | .ptr b off => some (.val (.ptr b off) m)
    | .func f a c => some (.val (.func f a c) m)
    | .iface t v => some (.val (.iface t v) m)
    | .fptr e els i k => some (.val (.fptr e els i k) m)
    | _ => none := rfl
theorem evOp_bin {ρ : Opd → EV} {m : Mem} (op : BinOp) (x y : Opd) : evOp ρ (.bin op x y) m = ofEV m (evBin op (ρ x) (ρ y)) := rfl
theorem evOp_eq {ρ : Opd → EV} {m : Mem} (neg : Bool) (t : EqTy) (x y : Opd) : evOp ρ (.eq neg t x y) m = ofEV m ((evEq t (ρ x) (ρ y)).map fun b => .bool (neg ^^ b)) := rfl
theorem evOp_un {ρ : Opd → EV} {m : Mem} (op : UnOp) (x : Opd) : evOp ρ (.un op x) m = ofEV m (evUn op (ρ x)) := rfl
theorem evOp_conv {ρ : Opd → EV} {m : Mem} (c : Cv) (x : Opd) : evOp ρ (.conv c x) m = ofEM (evConv c m (ρ x)) := rfl
theorem evOp_iface {ρ : Opd → EV} {m : Mem} (t : Nat) (x : Opd) : evOp ρ (.iface t x) m = some (.val (.iface t (ρ x)) m) := rfl
theorem evOp_mkfn {ρ : Opd → EV} {m : Mem} (f : Nat) (a c : List Opd) : evOp ρ (.mkfn f a c) m = some (.val (.func f (a.map ρ) (c.map ρ)) m) := rfl
theorem evOp_mkslice {ρ : Opd → EV} {m : Mem} (elem esz : Nat) (zero : List EV) (len cap : Opd) : evOp ρ (.mkslice elem esz zero len cap) m = match ρ len, ρ cap with
    | .int .i64 (.ofNat l), .int .i64 (.ofNat c) => bif (bif l.ble c then c.ble room else false) then
        some (.val (.slice m.next 0 l (some c)) (m.new (.cells (copies c zero) esz elem false))) else none
    | _, _ => none := rfl
theorem evOp_slstr {ρ : Opd → EV} {m : Mem} (x : Opd) (lo hi : Option Opd) : evOp ρ (.slstr x lo hi) m = match ρ x with
    | .str s => match bound (hi.map ρ) s.length s.length with
      | some h => match bound (lo.map ρ) 0 h with
        | some l => some (.val (.str ((s.take h).drop l)) m)
        | none => none
      | none => none
    | _ => none := rfl
theorem evOp_slarr {ρ : Opd → EV} {m : Mem} (n esz : Nat) (x : Opd) (lo hi max : Option Opd) : evOp ρ (.slarr n esz x lo hi max) m = match ρ x with
    | .ptr b off => ofEV m (evSlice esz b off n (some n) (lo.map ρ) (hi.map ρ) (max.map ρ))
    | _ => none := rfl
theorem evOp_faddr {ρ : Opd → EV} {m : Mem} (off : Nat) (x : Opd) : evOp ρ (.faddr off x) m = match ρ x with
    | .ptr b o => some (.val (.ptr b (o + off)) m)
    | .fptr e els i k => some (.val (.fptr e els i (k + off)) m)
    | _ => none := rfl
theorem evOp_fld {ρ : Opd → EV} {m : Mem} (agg : Option Nat) (off : Nat) (x : Opd) : evOp ρ (.fld agg off x) m = match ρ x with
    | .agg cs => ofEV m (partOf agg cs off)
    | _ => none := rfl
theorem evOp_iaddrArr {ρ : Opd → EV} {m : Mem} (n esz : Nat) (x i : Opd) : evOp ρ (.iaddrArr n esz x i) m = match ρ x with
    | .ptr b off => match idx n (ρ i) with
      | some i => some (.val (.ptr b (off + i * esz)) m)
      | none => none
    | _ => none := rfl
theorem evOp_idxstr {ρ : Opd → EV} {m : Mem} (x i : Opd) : evOp ρ (.idxstr x i) m = match ρ x with
    | .str s => match idx s.length (ρ i) with
      | some i => match s[i]? with
        | some c => some (.val (.int .u8 (c.toNat : Int)) m)
        | none => none
      | none => none
    | _ => none := rfl
theorem evOp_idxagg {ρ : Opd → EV} {m : Mem} (n esz : Nat) (agg : Option Nat) (x i : Opd) : evOp ρ (.idxagg n esz agg x i) m = match ρ x with
    | .agg cs => match idx n (ρ i) with
      | some i => ofEV m (partOf agg cs (i * esz))
      | none => none
    | _ => none := rfl
theorem evOp_lookup {ρ : Opd → EV} {m : Mem} (kt : Nat) (zero : EV) (ok : Bool) (mp k : Opd) : evOp ρ (.lookup kt zero ok mp k) m = match ρ mp with
    | .nilmap => bif keyIs kt (ρ k) then some (.val (bif ok then .tuple [zero, .bool false] else zero) m) else none
    | .map b => match m.get b with
      | .map es => bif keysOk kt (ρ k) es then
          match find (ρ k) es with
          | some v => some (.val (bif ok then .tuple [v, .bool true] else v) m)
          | none => some (.val (bif ok then .tuple [zero, .bool false] else zero) m)
        else none
      | _ => none
    | _ => none := rfl
theorem evOp_mapupd {ρ : Opd → EV} {m : Mem} (kt : Nat) (mp k x : Opd) : evOp ρ (.mapupd kt mp k x) m = match ρ mp with
    | .map b => match m.get b with
      | .map es => bif keysOk kt (ρ k) es then some (.val .undef (m.set b (.map (update (ρ k) (ρ x) es)))) else none
      | _ => none
    | _ => none := rfl
theorem evOp_delete {ρ : Opd → EV} {m : Mem} (kt : Nat) (mp k : Opd) : evOp ρ (.delete kt mp k) m = match ρ mp with
    | .nilmap => bif keyIs kt (ρ k) then some (.val (.tuple []) m) else none
    | .map b => match m.get b with
      | .map es => bif keysOk kt (ρ k) es then some (.val (.tuple []) (m.set b (.map (erase (ρ k) es)))) else none
      | _ => none
    | _ => none := rfl
theorem evOp_lenmap {ρ : Opd → EV} {m : Mem} (mp : Opd) : evOp ρ (.lenmap mp) m = match ρ mp with
    | .nilmap => some (.val (.int .i64 0) m)
    | .map b => match m.get b with
      | .map es => some (.val (.int .i64 (es.length : Int)) m)
      | _ => none
    | _ => none := rfl
theorem evOp_tassert {ρ : Opd → EV} {m : Mem} (t : Nat) (x : Opd) : evOp ρ (.tassert t x) m = match ρ x with
    | .iface u v => bif t.beq u then some (.val v m) else none
    | _ => none := rfl
theorem evOp_extract {ρ : Opd → EV} {m : Mem} (x : Opd) (i : Nat) : evOp ρ (.extract x i) m = match ρ x with
    | .tuple vs => ofEV m vs[i]?
    | _ => none := rfl
theorem evOp_lenstr {ρ : Opd → EV} {m : Mem} (x : Opd) : evOp ρ (.lenstr x) m = match ρ x with
    | .str s => some (.val (.int .i64 (s.length : Int)) m)
    | _ => none := rfl
theorem evOp_lenarr {ρ : Opd → EV} {m : Mem} (n : Nat) : evOp ρ (.lenarr n) m = some (.val (.int .i64 (n : Int)) m) := rfl
theorem evOp_cap {ρ : Opd → EV} {m : Mem} (x : Opd) : evOp ρ (.cap x) m = match ρ x with
    | .nilslice => some (.val (.int .i64 0) m)
    | .slice _ _ _ (some c) => some (.val (.int .i64 (c : Int)) m)
    | _ => none := rfl
theorem evOp_max {ρ : Opd → EV} {m : Mem} (args : List Opd) : evOp ρ (.max args) m = ofEV m (evMax (args.map ρ)) := rfl
theorem evOp_min {ρ : Opd → EV} {m : Mem} (args : List Opd) : evOp ρ (.min args) m = ofEV m (evMin (args.map ρ)) := rfl
theorem evOp_append {ρ : Opd → EV} {m : Mem} (elem esz bytes : Nat) (s x : Opd) : evOp ρ (.append elem esz bytes s x) m = ofEM (evAppend m elem esz (ρ s) (ρ x)) := rfl
theorem evOp_copy {ρ : Opd → EV} {m : Mem} (esz : Nat) (d s : Opd) : evOp ρ (.copy esz d s) m = ofEM (evCopy m esz (ρ d) (ρ s)) := rfl
open Classical in
noncomputable def bo (p : Prop) : EV := .bool (decide p)
open Classical in
noncomputable def gv (p : Prop) (v : EV) : EV := if p then v else .undef
open Classical in
noncomputable def iF {α : Type} (p : Prop) (x y : α) : α := if p then x else y
theorem bo_decide {p : Prop} [h : Decidable p] : EV.bool (decide p) = bo p := by unfold bo; congr
theorem bo_not_decide {p : Prop} [h : Decidable p] : EV.bool (!decide p) = bo (¬ p) := by
  unfold bo; by_cases hp : p <;> simp [hp]
theorem bo_tt : bo True = .bool true := by simp [bo]
theorem bo_ff : bo False = .bool false := by simp [bo]
theorem bo_pos {p : Prop} (h : p) : bo p = .bool true := by simp [bo, h]
theorem bo_neg {p : Prop} (h : ¬ p) : bo p = .bool false := by simp [bo, h]
theorem gv_true {v : EV} : gv True v = v := by simp [gv]
theorem gv_false {v : EV} : gv False v = .undef := by simp [gv]
theorem iF_pos {α : Type} {p : Prop} (h : p) {x y : α} : iF p x y = x := by simp [iF, h]
theorem iF_neg {α : Type} {p : Prop} (h : ¬ p) {x y : α} : iF p x y = y := by simp [iF, h]
@[congr] theorem iF_congr {α : Type} {p p' : Prop} {x x' y y' : α} (h : p = p') (h1 : p' → x = x') (h2 : ¬ p' → y = y') : iF p x y = iF p' x' y' := by
  subst h; by_cases hp : p
  · rw [iF_pos hp, iF_pos hp]; exact h1 hp
  · rw [iF_neg hp, iF_neg hp]; exact h2 hp
def cE (v : EV) (x y : Option Out) : Option Out := match v with
  | .bool true => x
  | .bool false => y
  | _ => none
@[congr] theorem cE_congr {v v' : EV} {x y : Option Out} (h : v = v') : cE v x y = cE v' x y := by rw [h]
theorem cE_bo {p : Prop} {x y : Option Out} : cE (bo p) x y = iF p x y := by by_cases h : p <;> simp [bo, iF, cE, h]
theorem cE_t {x y : Option Out} : cE (.bool true) x y = x := rfl
theorem cE_f {x y : Option Out} : cE (.bool false) x y = y := rfl
theorem exec_cond' {T : Nat → Option Ent} {c : Opd} {a b : ICode} {fr : Fr} {m : Mem} : exec T (.cond c a b) fr m = cE (fr.eval c) (exec T a fr m) (exec T b fr m) := by
  cases h : fr.eval c
  case bool t => rw [exec_cond h]; cases t <;> rfl
  all_goals
    refine opt_ext fun r => ?_
    rw [exec_iff]
    simp only [evCode, h, reduceCtorEq, exists_const, cE]
open Classical in
noncomputable def thenG (p : Prop) (m : Mem) (o : Option R1) (k : EV → Mem → Option Out) : Option Out := if p then thenV o k else k .undef m
open Classical in
noncomputable def thenH (p : Prop) (fr : Fr) (m : Mem) (o : Option Fin) (k : EV → Mem → Option Out) : Option Out := if p then thenC o fr k else k .undef m
@[congr] theorem thenG_congr {p p' : Prop} {m : Mem} {o o' : Option R1} {k : EV → Mem → Option Out} (h : p = p') (ho : p' → o = o') : thenG p m o k = thenG p' m o' k := by
  subst h; by_cases hp : p <;> simp only [thenG, hp, if_true, if_false]; rw [ho hp]
@[congr] theorem thenH_congr {p p' : Prop} {fr : Fr} {m : Mem} {o o' : Option Fin} {k : EV → Mem → Option Out} (h : p = p') (ho : p' → o = o') : thenH p fr m o k = thenH p' fr m o' k := by
  subst h; by_cases hp : p <;> simp only [thenH, hp, if_true, if_false]; rw [ho hp]
theorem thenG_val {p : Prop} {m m' : Mem} {v : EV} {k : EV → Mem → Option Out} (he : p → m' = m) : thenG p m (some (.val v m')) k = k (gv p v) m := by
  by_cases h : p
  · rw [he h]; simp [thenG, gv, thenV, h]
  · simp [thenG, gv, h]
theorem thenH_ret {p : Prop} {fr : Fr} {m m' : Mem} {v : EV} {k : EV → Mem → Option Out} (he : p → m' = m) : thenH p fr m (some (.ret v m')) k = k (gv p v) m := by
  by_cases h : p
  · rw [he h]; simp [thenH, gv, thenC, h]
  · simp [thenH, gv, h]
def gE (v : EV) (w : Bool) (x y : Option Out) : Option Out := match v with
  | .bool b => bif b == w then x else y
  | .undef => y
  | _ => none
@[congr] theorem gE_congr {v v' : EV} {w : Bool} {x y : Option Out} (h : v = v') : gE v w x y = gE v' w x y := by rw [h]
def gV (v : EV) (w : Bool) (m : Mem) (o : Option R1) (k : EV → Mem → Option Out) : Option Out := gE v w (thenV o k) (k .undef m)
def gC (v : EV) (w : Bool) (fr : Fr) (m : Mem) (o : Option Fin) (k : EV → Mem → Option Out) : Option Out := gE v w (thenC o fr k) (k .undef m)
@[congr] theorem gV_congr {v v' : EV} {w : Bool} {m : Mem} {o : Option R1} {k : EV → Mem → Option Out} (h : v = v') : gV v w m o k = gV v' w m o k := by rw [h]
@[congr] theorem gC_congr {v v' : EV} {w : Bool} {fr : Fr} {m : Mem} {o : Option Fin} {k : EV → Mem → Option Out} (h : v = v') : gC v w fr m o k = gC v' w fr m o k := by rw [h]
section
variable {p q : Prop} {b : Bool} {w : Bool} {fr : Fr} {m : Mem} {o : Option R1} {c : Option Fin} {k : EV → Mem → Option Out}
theorem gV_undef : gV .undef w m o k = k .undef m := rfl
theorem gC_undef : gC .undef w fr m c k = k .undef m := rfl
theorem gV_bo_t : gV (bo p) true m o k = thenG p m o k := by by_cases h : p <;> simp [gV, gE, bo, thenG, h]
theorem gV_bo_f : gV (bo p) false m o k = thenG (¬ p) m o k := by by_cases h : p <;> simp [gV, gE, bo, thenG, h]
theorem gV_tt : gV (.bool true) true m o k = thenV o k := rfl
theorem gV_tf : gV (.bool true) false m o k = k .undef m := rfl
theorem gV_ft : gV (.bool false) true m o k = k .undef m := rfl
theorem gV_ff : gV (.bool false) false m o k = thenV o k := rfl
theorem gV_gv_t : gV (gv p (bo q)) true m o k = thenG (p ∧ q) m o k := by by_cases h : p <;> by_cases h' : q <;> simp [gV, gE, bo, gv, thenG, h, h']
theorem gV_gv_f : gV (gv p (bo q)) false m o k = thenG (p ∧ ¬ q) m o k := by by_cases h : p <;> by_cases h' : q <;> simp [gV, gE, bo, gv, thenG, h, h']
theorem gV_gt_t : gV (gv p (.bool true)) true m o k = thenG p m o k := by by_cases h : p <;> simp [gV, gE, gv, thenG, h]
theorem gV_gt_f : gV (gv p (.bool true)) false m o k = k .undef m := by by_cases h : p <;> simp [gV, gE, gv, h]
theorem gV_gf_t : gV (gv p (.bool false)) true m o k = k .undef m := by by_cases h : p <;> simp [gV, gE, gv, h]
theorem gV_gf_f : gV (gv p (.bool false)) false m o k = thenG p m o k := by by_cases h : p <;> simp [gV, gE, gv, thenG, h]
theorem gC_bo_t : gC (bo p) true fr m c k = thenH p fr m c k := by by_cases h : p <;> simp [gC, gE, bo, thenH, h]
theorem gC_bo_f : gC (bo p) false fr m c k = thenH (¬ p) fr m c k := by by_cases h : p <;> simp [gC, gE, bo, thenH, h]
theorem gC_tt : gC (.bool true) true fr m c k = thenC c fr k := rfl
theorem gC_tf : gC (.bool true) false fr m c k = k .undef m := rfl
theorem gC_ft : gC (.bool false) true fr m c k = k .undef m := rfl
theorem gC_ff : gC (.bool false) false fr m c k = thenC c fr k := rfl
theorem gC_gv_t : gC (gv p (bo q)) true fr m c k = thenH (p ∧ q) fr m c k := by by_cases h : p <;> by_cases h' : q <;> simp [gC, gE, bo, gv, thenH, h, h']
theorem gC_gv_f : gC (gv p (bo q)) false fr m c k = thenH (p ∧ ¬ q) fr m c k := by by_cases h : p <;> by_cases h' : q <;> simp [gC, gE, bo, gv, thenH, h, h']
theorem gC_gt_t : gC (gv p (.bool true)) true fr m c k = thenH p fr m c k := by by_cases h : p <;> simp [gC, gE, gv, thenH, h]
theorem gC_gt_f : gC (gv p (.bool true)) false fr m c k = k .undef m := by by_cases h : p <;> simp [gC, gE, gv, h]
theorem gC_gf_t : gC (gv p (.bool false)) true fr m c k = k .undef m := by by_cases h : p <;> simp [gC, gE, gv, h]
theorem gC_gf_f : gC (gv p (.bool false)) false fr m c k = thenH p fr m c k := by by_cases h : p <;> simp [gC, gE, gv, thenH, h]
end
theorem oprs_guard' {T : Nat → Option Ent} {d : Option Nat} {op : XOp} {t : Nat} {w : Bool} {l : List IOper} {fr : Fr} {m : Mem} :
    oprs T (⟨d, op, some (t, w)⟩ :: l) fr m = gE (fr.get t) w (oprs T (⟨d, op, none⟩ :: l) fr m) (oprs T l (fr.put d .undef) m) := by
  cases h : fr.get t
  case bool b => rw [oprs_guard h]; rfl
  case undef =>
    refine opt_ext fun r => ?_
    rw [oprs_iff]
    simp only [evOps, wantedE, h, gE]
    exact oprs_iff.symm
  all_goals
    refine opt_ext fun r => ?_
    rw [oprs_iff]
    simp only [evOps, wantedE, h, reduceCtorEq, exists_const, gE]
theorem oprs_gval {T : Nat → Option Ent} {d : Option Nat} {op : IOp} {t : Nat} {w : Bool} {l : List IOper} {fr : Fr} {m : Mem} :
    oprs T (⟨d, .val op, some (t, w)⟩ :: l) fr m = gV (fr.get t) w m (evOp fr.eval op m) (fun v m => oprs T l (fr.put d v) m) := by rw [oprs_guard', oprs_val]; rfl
noncomputable def runV (T : Nat → Option Ent) (f : EV) (args : List EV) (m : Mem) : Option Fin := match f with
  | .func g a c => run T g (a ++ args ++ c) m
  | _ => none
theorem runV_func {T : Nat → Option Ent} {g : Nat} {a c args : List EV} {m : Mem} : runV T (.func g a c) args m = run T g (a ++ args ++ c) m := rfl
theorem oprs_callv {T : Nat → Option Ent} {d : Option Nat} {x : Opd} {args : List Opd} {l : List IOper} {fr : Fr} {m : Mem} :
    oprs T (⟨d, .call x args, none⟩ :: l) fr m = thenC (runV T (fr.eval x) (args.map fr.eval) m) fr fun v m => oprs T l (fr.put d v) m := by
  refine opt_ext fun r => ?_
  rw [oprs_iff]
  simp only [evOps, wantedE]
  cases hx : fr.eval x
  case func g a c =>
    simp only [evCall, runV]
    constructor
    · rintro ⟨k, h⟩
      cases hc : evFun T k g (a ++ args.map fr.eval ++ c) m with
      | none => rw [hc] at h; cases h
      | some q =>
        rw [run_iff.2 ⟨k, hc⟩]
        simp only [hc] at h
        cases q with
        | ret v m1 => exact oprs_iff.2 ⟨k, h⟩
        | pan v m1 => exact h
    · intro h
      cases hc : run T g (a ++ args.map fr.eval ++ c) m with
      | none => rw [hc] at h; cases h
      | some q =>
        obtain ⟨k1, h1⟩ := run_iff.1 hc
        rw [hc] at h
        cases q with
        | ret v m1 =>
          simp only [thenC] at h
          obtain ⟨k2, h2⟩ := oprs_iff.1 h
          refine ⟨max k1 k2, ?_⟩
          have e1 := mono_run _ _ _ (Nat.le_max_left k1 k2) h1
          have e2 := mono_oprs _ _ _ (Nat.le_max_right k1 k2) h2
          simp only at e1 e2
          rw [e1]; exact e2
        | pan v m1 => exact ⟨k1, by rw [h1]; exact h⟩
  all_goals simp [evCall, runV, thenC]
theorem oprs_gcallv {T : Nat → Option Ent} {d : Option Nat} {x : Opd} {args : List Opd} {t : Nat} {w : Bool} {l : List IOper} {fr : Fr} {m : Mem} :
    oprs T (⟨d, .call x args, some (t, w)⟩ :: l) fr m = gC (fr.get t) w fr m (runV T (fr.eval x) (args.map fr.eval) m) (fun v m => oprs T l (fr.put d v) m) := by rw [oprs_guard', oprs_callv]; rfl
def pickE (c a b : EV) (m : Mem) : Option R1 := match c with
  | .bool t => some (.val (bif t then a else b) m)
  | _ => none
theorem evOp_pick' {ρ : Opd → EV} {c x y : Opd} {m : Mem} : evOp ρ (.pick c x y) m = pickE (ρ c) (ρ x) (ρ y) m := by
  simp only [evOp]; unfold pickE; cases ρ c <;> rfl
section
variable {p q r : Prop} {a b : EV} {m : Mem} {c d : Bool}
theorem pick_and : pickE (bo p) (gv p (bo q)) (.bool false) m = some (.val (bo (p ∧ q)) m) := by by_cases h : p <;> by_cases h' : q <;> simp [pickE, gv, bo, h, h']
theorem pick_and_t : pickE (bo p) (gv p (.bool true)) (.bool false) m = some (.val (bo p) m) := by by_cases h : p <;> simp [pickE, gv, bo, h]
theorem pick_and_f : pickE (bo p) (gv p (.bool false)) (.bool false) m = some (.val (.bool false) m) := by by_cases h : p <;> simp [pickE, gv, bo, h]
theorem pick_or (hr : r = ¬ p) : pickE (bo p) (.bool true) (gv r (bo q)) m = some (.val (bo (p ∨ q)) m) := by subst hr; by_cases h : p <;> by_cases h' : q <;> simp [pickE, gv, bo, h, h']
theorem pick_or_t (hr : r = ¬ p) : pickE (bo p) (.bool true) (gv r (.bool true)) m = some (.val (.bool true) m) := by subst hr; by_cases h : p <;> simp [pickE, gv, bo, h]
theorem pick_or_f (hr : r = ¬ p) : pickE (bo p) (.bool true) (gv r (.bool false)) m = some (.val (bo p) m) := by subst hr; by_cases h : p <;> simp [pickE, gv, bo, h]
theorem pick_and0 : pickE (bo p) (bo q) (.bool false) m = some (.val (bo (p ∧ q)) m) := by by_cases h : p <;> by_cases h' : q <;> simp [pickE, bo, h, h']
theorem pick_or0 : pickE (bo p) (.bool true) (bo q) m = some (.val (bo (p ∨ q)) m) := by by_cases h : p <;> by_cases h' : q <;> simp [pickE, bo, h, h']
theorem pick_t : pickE (.bool true) a b m = some (.val a m) := rfl
theorem pick_f : pickE (.bool false) a b m = some (.val b m) := rfl
end
theorem un_not_bo {p : Prop} : evUn .not (bo p) = some (bo (¬ p)) := by by_cases h : p <;> simp [evUn, bo, h]
theorem eq_boo {p q : Prop} : evEq (.prim 0) (bo p) (bo q) = some (@decide (p = q) (Classical.propDecidable _)) := by by_cases h : p <;> by_cases h' : q <;> simp [evEq, evEqPrim, bo, h, h']
theorem eq_bo_t {p : Prop} : evEq (.prim 0) (bo p) (.bool true) = some (@decide p (Classical.propDecidable _)) := by by_cases h : p <;> simp [evEq, evEqPrim, bo, h]
theorem eq_bo_f {p : Prop} : evEq (.prim 0) (bo p) (.bool false) = some (@decide (¬ p) (Classical.propDecidable _)) := by by_cases h : p <;> simp [evEq, evEqPrim, bo, h]
theorem eq_t_bo {p : Prop} : evEq (.prim 0) (.bool true) (bo p) = some (@decide p (Classical.propDecidable _)) := by by_cases h : p <;> simp [evEq, evEqPrim, bo, h]
theorem eq_f_bo {p : Prop} : evEq (.prim 0) (.bool false) (bo p) = some (@decide (¬ p) (Classical.propDecidable _)) := by by_cases h : p <;> simp [evEq, evEqPrim, bo, h]
theorem eq_tt : evEq (.prim 0) (.bool true) (.bool true) = some true := rfl
theorem eq_ff : evEq (.prim 0) (.bool false) (.bool false) = some true := rfl
theorem eq_tf : evEq (.prim 0) (.bool true) (.bool false) = some false := rfl
theorem eq_ft : evEq (.prim 0) (.bool false) (.bool true) = some false := rfl
theorem un_not_t : evUn .not (.bool true) = some (.bool false) := rfl
theorem un_not_f : evUn .not (.bool false) = some (.bool true) := rfl
theorem eq_str {a b : List UInt8} : evEq (.prim 2) (.str a) (.str b) = some (decide (a = b)) := by simp only [evEq, evEqPrim, beq_self, cond_true, sameBytes_eq]
theorem thenE_iF {p : Prop} {a b : Option Out} {k : Fr → Mem → Option Out} : thenE (iF p a b) k = iF p (thenE a k) (thenE b k) := by unfold iF; split <;> rfl
theorem leave_iF {id : Nat} {p : Prop} {a b : Option Out} : leaveE id (iF p a b) = iF p (leaveE id a) (leaveE id b) := by unfold iF; split <;> rfl
theorem thenV_iF {p : Prop} {a b : Option R1} {k : EV → Mem → Option Out} : thenV (iF p a b) k = iF p (thenV a k) (thenV b k) := by unfold iF; split <;> rfl
theorem thenC_iF {p : Prop} {a b : Option Fin} {fr : Fr} {k : EV → Mem → Option Out} : thenC (iF p a b) fr k = iF p (thenC a fr k) (thenC b fr k) := by unfold iF; split <;> rfl
theorem resR_iF {rs : List IRes} {p : Prop} {a b : Option Out} : resR rs (iF p a b) = iF p (resR rs a) (resR rs b) := by unfold iF; split <;> rfl
theorem run_go' {T : Nat → Option Ent} {f : Nat} {F : IFun} (hf : T f = some (.go F)) {args : List EV} {m : Mem} (hn : args.length ≤ F.ntmps) : run T f args m = resR F.results (exec T F.body (argsF args 0 fr00) m) := by
  rw [run_go hf hn, resE_eq]; unfold fr00; rw [argsF_eq]
theorem idx_cast {n : Nat} {k : IntKind} {i : Nat} (h : i < n) : idx n (.int k (i : Int)) = some i := by
  have : (i + 1).ble n = true := Nat.ble_eq_true_of_le h
  show (bif (i + 1).ble n then some i else none) = _
  rw [this]; rfl
theorem bound_none {d n : Nat} : bound none d n = some d := rfl
theorem bound_cast {d n i : Nat} {k : IntKind} (h : i ≤ n) : bound (some (.int k (i : Int))) d n = some i := by
  show (bif i.ble n then some i else none) = _
  rw [Nat.ble_eq_true_of_le h]; rfl
theorem i64_wrap (n : Int) : IntKind.i64.wrap n = if n % 18446744073709551616 ≥ 9223372036854775808 then n % 18446744073709551616 - 18446744073709551616 else n % 18446744073709551616 := by
  have e : IntKind.i64.wrap n = if (true && decide (n % 18446744073709551616 ≥ 9223372036854775808)) = true then n % 18446744073709551616 - 18446744073709551616 else n % 18446744073709551616 := rfl
  rw [e]; simp only [Bool.true_and, decide_eq_true_eq]
theorem wrap_i64 {n : Int} (h1 : -9223372036854775808 ≤ n) (h2 : n < 9223372036854775808) : IntKind.i64.wrap n = n := by
  rw [i64_wrap]; split <;> omega
theorem told {T : Nat → Option Ent} {c : ICode} {fr : Fr} {m : Mem} {X : Option Out} (hX : exec T c fr m = X) {α : Type} {o : α → Out} {Q : α → Prop} (h : ∃ x, exec T c fr m = some (o x) ∧ Q x) : ∃ x, X = some (o x) ∧ Q x := by
  rw [hX] at h; exact h
end Go.Proofs.YtblcomejcahkdaaDoor.Ev
end
section
namespace Go.Proofs.YtblcomejcahkdaaDoor.Ev
open Go

inductive Bt where
  | leaf
  | node (k : Nat) (e : Ent) (l r : Bt)
def Bt.find : Bt → Nat → Option Ent
  | .leaf, _ => none
  | .node k e l r, f => bif f.beq k then some e else bif f.blt k then l.find f else r.find f
def Bt.All (Q : Nat → Ent → Prop) : Bt → Prop
  | .leaf => True
  | .node k e l r => Q k e ∧ l.All Q ∧ r.All Q
theorem Bt.find_of {Q : Nat → Ent → Prop} : ∀ {t : Bt}, t.All Q → ∀ f e, t.find f = some e → Q f e
  | .leaf, _, f, e, h => by simp [Bt.find] at h
  | .node k x l r, ⟨h0, hl, hr⟩, f, e, h => by
    simp only [Bt.find] at h
    cases hk : f.beq k with
    | true =>
      rw [of_beq hk]
      simp only [hk, cond_true, Option.some.injEq] at h
      subst h; exact h0
    | false =>
      simp only [hk, cond_false] at h
      cases hb : f.blt k <;> simp only [hb, cond_true, cond_false] at h
      · exact Bt.find_of hr f e h
      · exact Bt.find_of hl f e h

def xAdd64 : List EV → Option EV
  | [.int .u64 (.ofNat x), .int .u64 (.ofNat y), .int .u64 (.ofNat c)] => bif c.ble 1 then some (.tuple [.int .u64 (.ofNat ((x + y + c) % 18446744073709551616)), .int .u64 (.ofNat ((x + y + c) / 18446744073709551616))]) else none
  | _ => none
def xCount : List EV → Option EV
  | [.str s, .int .u8 c] => some (.int .i64 (Go.Lib.countByte s c.toNat.toUInt8))
  | _ => none
def xIndexByte : List EV → Option EV
  | [.str s, .int .u8 c] => some (.int .i64 (Go.Lib.indexByte s c.toNat.toUInt8))
  | _ => none
def isTrue : Option Fin → Bool
  | some (.ret (.bool true) _) => true
  | _ => false
theorem isTrue_of {r : Option Fin} (h : isTrue r = true) : ∃ m, r = some (.ret (.bool true) m) := by
  unfold isTrue at h
  split at h
  · exact ⟨_, rfl⟩
  · cases h
def xTrue : List EV → Option EV
  | [] => some (.bool true)
  | _ => none
theorem run_true {T : Nat → Option Ent} {f : Nat} (hf : T f = some (.pure xTrue)) {m : Mem} : run T f [] m = some (.ret (.bool true) m) := by rw [run_pure hf]; rfl
end Go.Proofs.YtblcomejcahkdaaDoor.Ev
end
section
namespace Go.Proofs.YtblcomejcahkdaaDoor.Ev
open Go
def lays171_ren : Go.Shelf.Ren := ⟨fun | 171 => 31 | 243 => 42 | 246 => 55 | 283 => 63 | 284 => 64 | 285 => 65 | 286 => 66 | 129 => 71 | 317 => 70 | 318 => 72 | 319 => 73 | 320 => 74 | 337 => 75 | 338 => 76 | n => n, fun | 3 => 3 | 9 => 9 | 2 => 2 | 4 => 4 | 171 => 78 | 0 => 0 | 53 => 79 | 37 => 59 | 5 => 5 | 173 => 82 | 212 => 89 | 51 => 90 | 20 => 20 | 213 => 91 | 46 => 92 | 232 => 95 | 233 => 96 | n => n, fun | 17 => 2 | 18 => 4 | 19 => 5 | n => n⟩
theorem lays171 : Go.Proofs.LaysM.n171 Tryd.prog lays171_ren where
  mixed := by kernel_rfl
  f129 := Tryd.func71.trans (congrArg some (by kernel_rfl))
  f171 := Tryd.func31.trans (congrArg some (by kernel_rfl))
  f243 := Tryd.func42.trans (congrArg some (by kernel_rfl))
  f246 := Tryd.func55.trans (congrArg some (by kernel_rfl))
  f283 := Tryd.func63.trans (congrArg some (by kernel_rfl))
  f284 := Tryd.func64.trans (congrArg some (by kernel_rfl))
  f285 := Tryd.func65.trans (congrArg some (by kernel_rfl))
  f286 := Tryd.func66.trans (congrArg some (by kernel_rfl))
  f317 := Tryd.func70.trans (congrArg some (by kernel_rfl))
  f318 := Tryd.func72.trans (congrArg some (by kernel_rfl))
  f319 := Tryd.func73.trans (congrArg some (by kernel_rfl))
  f320 := Tryd.func74.trans (congrArg some (by kernel_rfl))
  f337 := Tryd.func75.trans (congrArg some (by kernel_rfl))
  f338 := Tryd.func76.trans (congrArg some (by kernel_rfl))
  t0 := Tryd.underlying0
  a0 := Tryd.isAgg0
  z0 := Tryd.sizeOf0
  v0 := Tryd.zeroValue0
  t2 := Tryd.underlying2
  a2 := Tryd.isAgg2
  z2 := Tryd.sizeOf2
  v2 := Tryd.zeroValue2
  t3 := Tryd.underlying3
  a3 := Tryd.isAgg3
  z3 := Tryd.sizeOf3
  v3 := Tryd.zeroValue3
  t4 := Tryd.underlying4
  a4 := Tryd.isAgg4
  z4 := Tryd.sizeOf4
  v4 := Tryd.zeroValue4
  t5 := Tryd.underlying5
  a5 := Tryd.isAgg5
  z5 := Tryd.sizeOf5
  v5 := Tryd.zeroValue5
  t9 := Tryd.underlying9
  a9 := Tryd.isAgg9
  z9 := Tryd.sizeOf9
  v9 := Tryd.zeroValue9
  t20 := Tryd.underlying20
  a20 := Tryd.isAgg20
  z20 := Tryd.sizeOf20
  v20 := Tryd.zeroValue20
  t37 := Tryd.underlying59
  a37 := Tryd.isAgg59
  z37 := Tryd.sizeOf59
  v37 := Tryd.zeroValue59
  t46 := Tryd.underlying92
  a46 := Tryd.isAgg92
  z46 := Tryd.sizeOf92
  v46 := Tryd.zeroValue92
  t51 := Tryd.underlying90
  a51 := Tryd.isAgg90
  z51 := Tryd.sizeOf90
  v51 := Tryd.zeroValue90
  t53 := Tryd.underlying79
  a53 := Tryd.isAgg79
  z53 := Tryd.sizeOf79
  v53 := Tryd.zeroValue79
  t171 := Tryd.underlying78
  a171 := Tryd.isAgg78
  z171 := Tryd.sizeOf78
  v171 := Tryd.zeroValue78
  t173 := Tryd.underlying82
  a173 := Tryd.isAgg82
  z173 := Tryd.sizeOf82
  v173 := Tryd.zeroValue82
  t212 := Tryd.underlying89
  a212 := Tryd.isAgg89
  z212 := Tryd.sizeOf89
  v212 := Tryd.zeroValue89
  t213 := Tryd.underlying91
  a213 := Tryd.isAgg91
  z213 := Tryd.sizeOf91
  t232 := Tryd.underlying95
  a232 := Tryd.isAgg95
  z232 := Tryd.sizeOf95
  v232 := Tryd.zeroValue95
  t233 := Tryd.underlying96
  a233 := Tryd.isAgg96
  z233 := Tryd.sizeOf96
  v233 := Tryd.zeroValue96
  g17 := by kernel_rfl
  g18 := by kernel_rfl
  g19 := by kernel_rfl
  i0 := by kernel_rfl
  i2 := by kernel_rfl
  i3 := by kernel_rfl
  i4 := by kernel_rfl
  i5 := by kernel_rfl
  i9 := by kernel_rfl
  i20 := by kernel_rfl
  i37 := by kernel_rfl
  i46 := by kernel_rfl
  i51 := by kernel_rfl
  i53 := by kernel_rfl
  i171 := by kernel_rfl
  i173 := by kernel_rfl
  i212 := by kernel_rfl
  i232 := by kernel_rfl
  i233 := by kernel_rfl
  m17 := by kernel_rfl
  m18 := by kernel_rfl
  m19 := by kernel_rfl
theorem itoaNo : lays171_ren.f 171 = 31 := rfl
theorem itoaFn : Tryd.prog.funcs[(31 : Nat)]? = some Tryd.f31 := Tryd.func31
abbrev tabNo : Nat := 2
theorem tab_no : Tryd.prog.globalNamed "internal/strconv.uint64pow10" = some tabNo := by kernel_rfl
theorem tab_told : tabl tabNo = some Go.Lib.pow10Tab := rfl
end Go.Proofs.YtblcomejcahkdaaDoor.Ev
end
section
namespace Go.Proofs.YtblcomejcahkdaaDoor.Ev
open Go
def lays156_ren : Go.Shelf.Ren := ⟨fun | 156 => 33 | 165 => 44 | 166 => 45 | 169 => 46 | 240 => 56 | 241 => 57 | 276 => 67 | 277 => 68 | n => n, fun | 31 => 36 | 9 => 9 | 3 => 3 | 4 => 4 | 0 => 0 | 20 => 20 | 72 => 61 | 76 => 65 | 70 => 58 | 37 => 59 | 75 => 64 | 127 => 75 | 164 => 84 | 5 => 5 | 80 => 67 | n => n, fun | n => n⟩
theorem lays156 : Go.Proofs.Lays.n156 Tryd.prog lays156_ren where
  mixed := by kernel_rfl
  f156 := Tryd.func33.trans (congrArg some (by kernel_rfl))
  f165 := Tryd.func44.trans (congrArg some (by kernel_rfl))
  f166 := Tryd.func45.trans (congrArg some (by kernel_rfl))
  f169 := Tryd.func46.trans (congrArg some (by kernel_rfl))
  f240 := Tryd.func56.trans (congrArg some (by kernel_rfl))
  f241 := Tryd.func57.trans (congrArg some (by kernel_rfl))
  f276 := Tryd.func67.trans (congrArg some (by kernel_rfl))
  f277 := Tryd.func68.trans (congrArg some (by kernel_rfl))
  t0 := Tryd.underlying0
  a0 := Tryd.isAgg0
  z0 := Tryd.sizeOf0
  v0 := Tryd.zeroValue0
  t3 := Tryd.underlying3
  a3 := Tryd.isAgg3
  z3 := Tryd.sizeOf3
  v3 := Tryd.zeroValue3
  t4 := Tryd.underlying4
  a4 := Tryd.isAgg4
  z4 := Tryd.sizeOf4
  v4 := Tryd.zeroValue4
  t9 := Tryd.underlying9
  a9 := Tryd.isAgg9
  z9 := Tryd.sizeOf9
  v9 := Tryd.zeroValue9
  t20 := Tryd.underlying20
  a20 := Tryd.isAgg20
  z20 := Tryd.sizeOf20
  v20 := Tryd.zeroValue20
  t31 := Tryd.underlying36
  a31 := Tryd.isAgg36
  z31 := Tryd.sizeOf36
  v31 := Tryd.zeroValue36
  t37 := Tryd.underlying59
  a37 := Tryd.isAgg59
  z37 := Tryd.sizeOf59
  v37 := Tryd.zeroValue59
  t70 := Tryd.underlying58
  a70 := Tryd.isAgg58
  z70 := Tryd.sizeOf58
  v70 := Tryd.zeroValue58
  t72 := Tryd.underlying61
  a72 := Tryd.isAgg61
  z72 := Tryd.sizeOf61
  v72 := Tryd.zeroValue61
  t75 := Tryd.underlying64
  a75 := Tryd.isAgg64
  z75 := Tryd.sizeOf64
  v75 := Tryd.zeroValue64
  t76 := Tryd.underlying65
  a76 := Tryd.isAgg65
  z76 := Tryd.sizeOf65
  v76 := Tryd.zeroValue65
  t127 := Tryd.underlying75
  a127 := Tryd.isAgg75
  z127 := Tryd.sizeOf75
  v127 := Tryd.zeroValue75
  t164 := Tryd.underlying84
  a164 := Tryd.isAgg84
  z164 := Tryd.sizeOf84
  v164 := Tryd.zeroValue84
theorem extra156 : Go.Proofs.Builder.Extra Tryd.prog lays156_ren where
  sizeBuilder := by kernel_rfl
  liesBuilder := by kernel_rfl
  t5 := Tryd.underlying5
  a5 := Tryd.isAgg5
  z5 := Tryd.sizeOf5
  v5 := Tryd.zeroValue5
  infoByte := by kernel_rfl
  cellsByte := by kernel_rfl
  sizeByte := by kernel_rfl
  neB5 := by decide
theorem joinFn : Tryd.prog.funcs[(33 : Nat)]? = some Tryd.f33 := Tryd.func33
theorem joinNo : lays156_ren.f 156 = 33 := rfl
end Go.Proofs.YtblcomejcahkdaaDoor.Ev
end
section
namespace Go.Proofs.YtblcomejcahkdaaDoor.Ev
open Go

class Has (T : Nat → Option Ent) (f : Nat) (e : outParam Ent) : Prop where
  has : T f = some e
def nb (n i : Nat) : Nat := n + i
def ext (m : Mem) (xs : List Blk) : Mem := xs.foldl Mem.new m
theorem new_eq {m : Mem} {x : Blk} : m.new x = ext m [x] := rfl
theorem ext_ext {m : Mem} {xs ys : List Blk} : ext (ext m xs) ys = ext m (xs ++ ys) := by unfold ext; rw [List.foldl_append]
theorem nb_nb {n i j : Nat} : nb (nb n i) j = nb n (i + j) := Nat.add_assoc n i j
theorem next_ext {m : Mem} {xs : List Blk} : (ext m xs).next = nb m.next xs.length := by
  unfold ext nb
  induction xs generalizing m with
  | nil => rfl
  | cons x xs ih => rw [List.foldl_cons, ih]; show m.next + 1 + _ = _; rw [List.length_cons]; omega
theorem next_set {m : Mem} {b : Nat} {x : Blk} : (m.set b x).next = m.next := rfl
theorem next_new {m : Mem} {x : Blk} : (m.new x).next = m.next + 1 := rfl
theorem get_new {m : Mem} {x : Blk} {b : Nat} : (m.new x).get b = if b = m.next then x else m.get b := by
  unfold Mem.get Mem.new; simp only; rw [Tr.get_set]; split <;> rfl
theorem get_set {m : Mem} {x : Blk} {b c : Nat} : (m.set c x).get b = if b = c then x else m.get b := by
  unfold Mem.get Mem.set; simp only; rw [Tr.get_set]; split <;> rfl
theorem get_set_eq {m : Mem} {x : Blk} {b : Nat} : (m.set b x).get b = x := by rw [get_set, if_pos rfl]
theorem get_set_ne {m : Mem} {x : Blk} {b c : Nat} (h : b ≠ c) : (m.set c x).get b = m.get b := by rw [get_set, if_neg h]
theorem get_ext_old {m : Mem} {xs : List Blk} {b : Nat} (h : b < m.next) : (ext m xs).get b = m.get b := by
  unfold ext
  induction xs generalizing m with
  | nil => rfl
  | cons x xs ih => rw [List.foldl_cons, ih (by rw [next_new]; omega), get_new, if_neg (by omega)]
theorem get_ext_nb {m : Mem} {xs : List Blk} {n i : Nat} (hn : m.next = n) (h : i < xs.length) : (ext m xs).get (nb n i) = xs[i]?.getD .dead := by
  subst hn
  unfold ext nb
  induction xs generalizing m i with
  | nil => simp at h
  | cons x xs ih =>
    rw [List.foldl_cons]
    cases i with
    | zero =>
      have := get_ext_old (m := m.new x) (xs := xs) (b := m.next) (by rw [next_new]; omega)
      unfold ext at this
      rw [Nat.add_zero, this, get_new, if_pos rfl]; rfl
    | succ i =>
      have := ih (m := m.new x) (i := i) (by simpa using h)
      rw [next_new, show m.next + 1 + i = m.next + (i + 1) by omega] at this
      rw [this]; rfl
def Keeps (m m' : Mem) : Prop := ∀ b, b < m.next → m'.get b = m.get b
def ldB (x : Blk) (agg : Option Nat) (off : Nat) : Option EV := match x with
  | .cells cs _ _ _ => partOf agg cs off
  | _ => none
theorem load_ptr' {m : Mem} {agg : Option Nat} {b off : Nat} : m.load agg (.ptr b off) = ldB (m.get b) agg off := by
  simp only [Mem.load, ldB]; cases m.get b <;> rfl
theorem ldB_cells {cs : List EV} {e t : Nat} {ro : Bool} {agg : Option Nat} {off : Nat} : ldB (.cells cs e t ro) agg off = partOf agg cs off := rfl
theorem part_none {cs : List EV} {off : Nat} : partOf none cs off = cs[off]? := rfl
theorem part_some {cs : List EV} {off n : Nat} (h : off + n ≤ cs.length) : partOf (some n) cs off = some (.agg ((cs.drop off).take n)) := by
  show (bif (off + n).ble cs.length then some (EV.agg ((cs.drop off).take n)) else none) = _
  rw [Nat.ble_eq_true_of_le h]; rfl
def stB (m : Mem) (size b off : Nat) (vs : Option (List EV)) : Option Mem := match vs with
  | some vs => bif vs.length.beq size then m.write b off vs else none
  | none => none
theorem store_ptr' {m : Mem} {size b off : Nat} {x : EV} : m.store size (.ptr b off) x = stB m size b off x.cells := by
  simp only [Mem.store, stB]; cases x.cells <;> rfl
theorem stB_some {m : Mem} {size b off : Nat} {vs : List EV} (h : vs.length = size) : stB m size b off (some vs) = m.write b off vs := by
  show (bif vs.length.beq size then m.write b off vs else none) = _
  rw [h, beq_self]; rfl
def wrB (m : Mem) (b off : Nat) (vs : List EV) (x : Blk) : Option Mem := match x with
  | .cells cs esz elem ro => bif ro then none else (splice cs off vs).map fun cs => m.set b (.cells cs esz elem ro)
  | _ => none
theorem write_eq {m : Mem} {b off : Nat} {vs : List EV} : m.write b off vs = wrB m b off vs (m.get b) := by simp only [Mem.write, wrB]; cases m.get b <;> rfl
theorem wrB_cells {m : Mem} {b off : Nat} {vs cs : List EV} {e t : Nat} (h : off + vs.length ≤ cs.length) : wrB m b off vs (.cells cs e t false) = some (m.set b (.cells (cs.take off ++ vs ++ cs.drop (off + vs.length)) e t false)) := by
  show (bif false then none else (splice cs off vs).map fun cs => m.set b (.cells cs e t false)) = _
  unfold splice; rw [Nat.ble_eq_true_of_le h]; rfl
theorem cells_int {k : IntKind} {n : Int} : (EV.int k n).cells = some [.int k n] := rfl
theorem cells_bool {b : Bool} : (EV.bool b).cells = some [.bool b] := rfl
theorem cells_bo {p : Prop} : (bo p).cells = some [bo p] := rfl
theorem cells_str {s : List UInt8} : (EV.str s).cells = some [.str s] := rfl
theorem cells_nilptr : EV.nilptr.cells = some [.nilptr] := rfl
theorem cells_ptr {b o : Nat} : (EV.ptr b o).cells = some [.ptr b o] := rfl
theorem cells_nilslice : EV.nilslice.cells = some [.nilslice] := rfl
theorem cells_slice {b o l : Nat} {c : Option Nat} : (EV.slice b o l c).cells = some [.slice b o l c] := rfl
theorem cells_nilmap : EV.nilmap.cells = some [.nilmap] := rfl
theorem cells_map {b : Nat} : (EV.map b).cells = some [.map b] := rfl
theorem cells_nilfunc : EV.nilfunc.cells = some [.nilfunc] := rfl
theorem cells_func {f : Nat} {x y : List EV} : (EV.func f x y).cells = some [.func f x y] := rfl
theorem cells_niliface : EV.niliface.cells = some [.niliface] := rfl
theorem cells_iface {t : Nat} {v : EV} : (EV.iface t v).cells = some [.iface t v] := rfl
theorem cells_agg {cs : List EV} : (EV.agg cs).cells = some cs := rfl
def fillB (cs : List EV) (off size : Nat) (vs : Option (List EV)) (r : List (Nat × Nat × EV)) : Option (List EV) := match vs with
  | some vs => bif vs.length.beq size then match splice cs off vs with
      | some cs => fillIn cs r
      | none => none
    else none
  | none => none
theorem fill_nil {cs : List EV} : fillIn cs [] = some cs := rfl
theorem fill_cons {cs : List EV} {off size : Nat} {v : EV} {r : List (Nat × Nat × EV)} : fillIn cs ((off, size, v) :: r) = fillB cs off size v.cells r := by simp only [fillB, fillIn]; cases v.cells <;> rfl
theorem fillB_some {cs : List EV} {off size : Nat} {vs : List EV} {r : List (Nat × Nat × EV)} (h : vs.length = size) (h2 : off + vs.length ≤ cs.length) : fillB cs off size (some vs) r = fillIn (cs.take off ++ vs ++ cs.drop (off + vs.length)) r := by
  show (bif vs.length.beq size then match splice cs off vs with | some cs => fillIn cs r | none => none else none) = _
  unfold splice; rw [h, beq_self, Nat.ble_eq_true_of_le (by rw [← h]; exact h2)]; rfl
def boxE (elem : Nat) (m : Mem) (vs : Option (List EV)) : Option R1 := match vs with
  | some cs => some (.val (.ptr (nb m.next 0) 0) (ext m [.cells cs cs.length elem false]))
  | none => none
theorem evOp_box' {ρ : Opd → EV} {m : Mem} {elem : Nat} {x : Opd} : evOp ρ (.box elem x) m = boxE elem m (ρ x).cells := by
  simp only [evOp]; unfold boxE; cases (ρ x).cells <;> rfl
theorem boxE_some {elem : Nat} {m : Mem} {cs : List EV} : boxE elem m (some cs) = some (.val (.ptr (nb m.next 0) 0) (ext m [.cells cs cs.length elem false])) := rfl
theorem evOp_alloc' {ρ : Opd → EV} {m : Mem} {elem : Nat} {zero : List EV} : evOp ρ (.alloc elem zero) m = some (.val (.ptr (nb m.next 0) 0) (ext m [.cells zero zero.length elem false])) := rfl
theorem evOp_mkmap' {ρ : Opd → EV} {m : Mem} : evOp ρ .mkmap m = some (.val (.map (nb m.next 0)) (ext m [.map []])) := rfl

theorem put_same {α : Type} (x y : α) (p : List Bool) : ∀ t : Tr α, (t.put x p).put y p = t.put y p := by
  induction p with
  | nil => intro t; cases t <;> rfl
  | cons b p ih => intro t; cases t <;> cases b <;> simp [Tr.put, ih]
theorem put_comm {α : Type} (x y : α) (p : List Bool) : ∀ (q : List Bool) (t : Tr α), p ≠ q → (t.put x p).put y q = (t.put y q).put x p := by
  induction p with
  | nil =>
    intro q t h
    cases q with
    | nil => exact absurd rfl h
    | cons c q => cases t <;> cases c <;> simp [Tr.put]
  | cons b p ih =>
    intro q t h
    cases q with
    | nil => cases t <;> cases b <;> simp [Tr.put]
    | cons c q =>
      by_cases hbc : b = c
      · subst hbc
        have hpq : p ≠ q := fun e => h (by rw [e])
        cases t <;> cases b <;> simp [Tr.put, ih _ _ hpq]
      · cases t <;> cases b <;> cases c <;> simp [Tr.put] at hbc ⊢
theorem new_set {m : Mem} {b : Nat} {x y : Blk} (h : b < m.next) : (m.new y).set b x = (m.set b x).new y := by
  unfold Mem.set Mem.new Tr.set; simp only; rw [put_comm _ _ _ _ _ (fun e => by have := path_inj e; omega)]
theorem new_set_same {m : Mem} {x y : Blk} : (m.new y).set m.next x = m.new x := by
  unfold Mem.set Mem.new Tr.set; simp only; rw [put_same]
theorem set_ext_old {m : Mem} {xs : List Blk} {b : Nat} {x : Blk} (h : b < m.next) : (ext m xs).set b x = ext (m.set b x) xs := by
  unfold ext
  induction xs generalizing m with
  | nil => rfl
  | cons y ys ih => rw [List.foldl_cons, ih (by rw [next_new]; omega), new_set h]; rfl
theorem set_ext_nb {m : Mem} {xs : List Blk} {n i : Nat} {x : Blk} (hn : m.next = n) (h : i < xs.length) : (ext m xs).set (nb n i) x = ext m (xs.set i x) := by
  subst hn
  induction xs generalizing m i with
  | nil => simp at h
  | cons y ys ih =>
    cases i with
    | zero =>
      have := set_ext_old (m := m.new y) (xs := ys) (b := m.next) (x := x) (by rw [next_new]; omega)
      rw [new_set_same] at this
      exact this
    | succ i =>
      have := ih (m := m.new y) (i := i) (by simpa using h)
      rw [next_new] at this
      unfold nb at this ⊢
      rw [show m.next + (i + 1) = m.next + 1 + i by omega]
      exact this

open Classical in
noncomputable def lookOf (T : Nat → Option Ent) (f : Nat) : List EV → Mem → Option EV := fun args m => match run T f args m with
  | some (.ret v m') => if Flat v = true ∧ Keeps m m' then some v else none
  | _ => none
end Go.Proofs.YtblcomejcahkdaaDoor.Ev
end
section
namespace Go.Proofs.YtblcomejcahkdaaDoor.Ev
open Go
theorem srt_mov (x : Opd) : srt (.mov x) = 0 := rfl
theorem srt_alloc (elem : Nat) (zero : List EV) : srt (.alloc elem zero) = 1 := rfl
theorem srt_box (elem : Nat) (x : Opd) : srt (.box elem x) = 1 := rfl
theorem srt_build (zero : List EV) (parts : List (Nat × Nat × Opd)) : srt (.build zero parts) = 0 := rfl
theorem srt_bslice (elem esz len : Nat) (zero : List EV) (parts : List (Nat × Opd)) : srt (.bslice elem esz len zero parts) = 1 := rfl
theorem srt_store (size : Nat) (a x : Opd) : srt (.store size a x) = 3 := rfl
theorem srt_nilck (x : Opd) : srt (.nilck x) = 0 := rfl
theorem srt_bin (op : BinOp) (x y : Opd) : srt (.bin op x y) = 0 := rfl
theorem srt_eq (neg : Bool) (t : EqTy) (x y : Opd) : srt (.eq neg t x y) = 0 := rfl
theorem srt_un (op : UnOp) (x : Opd) : srt (.un op x) = 0 := rfl
theorem srt_iface (t : Nat) (x : Opd) : srt (.iface t x) = 0 := rfl
theorem srt_mkfn (f : Nat) (a c : List Opd) : srt (.mkfn f a c) = 0 := rfl
theorem srt_mkmap  : srt (.mkmap ) = 1 := rfl
theorem srt_mkslice (elem esz : Nat) (zero : List EV) (len cap : Opd) : srt (.mkslice elem esz zero len cap) = 1 := rfl
theorem srt_slstr (x : Opd) (lo hi : Option Opd) : srt (.slstr x lo hi) = 0 := rfl
theorem srt_slsl (esz : Nat) (x : Opd) (lo hi max : Option Opd) : srt (.slsl esz x lo hi max) = 3 := rfl
theorem srt_slarr (n esz : Nat) (x : Opd) (lo hi max : Option Opd) : srt (.slarr n esz x lo hi max) = 0 := rfl
theorem srt_faddr (off : Nat) (x : Opd) : srt (.faddr off x) = 0 := rfl
theorem srt_fld (agg : Option Nat) (off : Nat) (x : Opd) : srt (.fld agg off x) = 0 := rfl
theorem srt_iaddr (esz : Nat) (x i : Opd) : srt (.iaddr esz x i) = 0 := rfl
theorem srt_iaddrArr (n esz : Nat) (x i : Opd) : srt (.iaddrArr n esz x i) = 0 := rfl
theorem srt_idxstr (x i : Opd) : srt (.idxstr x i) = 0 := rfl
theorem srt_idxagg (n esz : Nat) (agg : Option Nat) (x i : Opd) : srt (.idxagg n esz agg x i) = 0 := rfl
theorem srt_lookup (kt : Nat) (zero : EV) (ok : Bool) (mp k : Opd) : srt (.lookup kt zero ok mp k) = 3 := rfl
theorem srt_mapupd (kt : Nat) (mp k x : Opd) : srt (.mapupd kt mp k x) = 3 := rfl
theorem srt_delete (kt : Nat) (mp k : Opd) : srt (.delete kt mp k) = 3 := rfl
theorem srt_lenmap (mp : Opd) : srt (.lenmap mp) = 3 := rfl
theorem srt_tassert (t : Nat) (x : Opd) : srt (.tassert t x) = 0 := rfl
theorem srt_extract (x : Opd) (i : Nat) : srt (.extract x i) = 0 := rfl
theorem srt_len (x : Opd) : srt (.len x) = 0 := rfl
theorem srt_lenstr (x : Opd) : srt (.lenstr x) = 0 := rfl
theorem srt_lenarr (n : Nat) : srt (.lenarr n) = 0 := rfl
theorem srt_cap (x : Opd) : srt (.cap x) = 0 := rfl
theorem srt_max (args : List Opd) : srt (.max args) = 0 := rfl
theorem srt_min (args : List Opd) : srt (.min args) = 0 := rfl
theorem srt_append (elem esz bytes : Nat) (s x : Opd) : srt (.append elem esz bytes s x) = 3 := rfl
theorem srt_copy (esz : Nat) (d s : Opd) : srt (.copy esz d s) = 3 := rfl
theorem srt_pick {x y z : Opd} : srt (.pick x y z) = 0 := rfl
theorem srt_cv_int {k : IntKind} {x : Opd} : srt (.conv (.int k) x) = 0 := rfl
theorem srt_cv_same {x : Opd} : srt (.conv .same x) = 0 := rfl
theorem srt_cv_bytes {e : Nat} {x : Opd} : srt (.conv (.bytes e) x) = 1 := rfl
theorem srt_cv_text {x : Opd} : srt (.conv .text x) = 3 := rfl
def bump (m : Mem) (k : Nat) : Mem := ⟨m.next + k, m.tbl⟩
theorem get_bump {m : Mem} {k b : Nat} : (bump m k).get b = m.get b := rfl
theorem next_bump {m : Mem} {k : Nat} : (bump m k).next = nb m.next k := rfl
theorem set_bump {m : Mem} {k b : Nat} {x : Blk} : (bump m k).set b x = bump (m.set b x) k := rfl
theorem load_bump {m : Mem} {k : Nat} {agg : Option Nat} {a : EV} : (bump m k).load agg a = m.load agg a := rfl
theorem nb_lt {n i j : Nat} : nb n i < nb n j ↔ i < j := by unfold nb; omega
theorem nb_inj {n i j : Nat} : nb n i = nb n j ↔ i = j := by unfold nb; omega
theorem lt_nb {b n i : Nat} (h : b < n) : b < nb n i := by unfold nb; omega
theorem get_ext_nb' {m : Mem} {xs : List Blk} {n i j : Nat} (hn : m.next = nb n j) (h : j ≤ i) (h2 : i - j < xs.length) : (ext m xs).get (nb n i) = xs[i - j]?.getD .dead := by
  have := get_ext_nb (m := m) (xs := xs) (n := nb n j) (i := i - j) hn h2
  rw [nb_nb, show j + (i - j) = i by omega] at this; exact this
theorem set_ext_nb' {m : Mem} {xs : List Blk} {n i j : Nat} {x : Blk} (hn : m.next = nb n j) (h : j ≤ i) (h2 : i - j < xs.length) : (ext m xs).set (nb n i) x = ext m (xs.set (i - j) x) := by
  have := set_ext_nb (m := m) (xs := xs) (n := nb n j) (i := i - j) (x := x) hn h2
  rw [nb_nb, show j + (i - j) = i by omega] at this; exact this
theorem le_nb {n i : Nat} : n ≤ nb n i := by unfold nb; omega

mutual
def Told : EV → Bool
  | .fz t _ els => !(t.beq 0) && Toldss els
  | .fptr _ _ _ _ => false
  | .func _ x y => Tolds x && Tolds y
  | .iface _ v => Told v
  | .agg x | .tuple x => Tolds x
  | _ => true
def Tolds : List EV → Bool
  | [] => true
  | v :: x => Told v && Tolds x
def Toldss : List (List EV) → Bool
  | [] => true
  | v :: x => Tolds v && Toldss x
end
mutual
theorem same_refl : ∀ v : EV, Told v = true → EV.same v v = true
  | .undef, _ | .nilptr, _ | .nilslice, _ | .nilmap, _ | .nilfunc, _ | .niliface, _ => rfl
  | .bool b, _ => by cases b <;> rfl
  | .int k n, _ => by
    have h1 : (kindNo k).beq (kindNo k) = true := Nat.beq_refl _
    have h2 : sameInt n n = true := by cases n <;> exact Nat.beq_refl _
    simp only [EV.same, h1, cond_true, h2]
  | .str s, _ => by simp only [EV.same, sameBytes_eq, decide_true]
  | .ptr a i, _ => by simp only [EV.same, Nat.beq_refl, cond_true]
  | .slice a i n c, _ => by
    have h : sameOpt c c = true := by cases c <;> simp [sameOpt]
    simp only [EV.same, Nat.beq_refl, cond_true, h]
  | .map a, _ => by simp only [EV.same, Nat.beq_refl]
  | .func f x y, h => by
    simp only [Told, Bool.and_eq_true] at h
    simp only [EV.same, Nat.beq_refl, cond_true, sames_refl x h.1, sames_refl y h.2]
  | .iface t v, h => by simp only [EV.same, Nat.beq_refl, cond_true, same_refl v (by simpa only [Told] using h)]
  | .agg x, h => by simp only [EV.same, sames_refl x (by simpa only [Told] using h)]
  | .tuple x, h => by simp only [EV.same, sames_refl x (by simpa only [Told] using h)]
  | .fz t e els, h => by
    simp only [Told, Bool.and_eq_true, Bool.not_eq_true'] at h
    simp only [EV.same, h.1, cond_false, Nat.beq_refl, cond_true, samess_refl els h.2]
  | .fptr _ _ _ _, h => by simp [Told] at h
theorem sames_refl : ∀ x : List EV, Tolds x = true → EV.sames x x = true
  | [], _ => rfl
  | v :: x, h => by
    simp only [Tolds, Bool.and_eq_true] at h
    simp only [EV.sames, same_refl v h.1, cond_true, sames_refl x h.2]
theorem samess_refl : ∀ x : List (List EV), Toldss x = true → EV.samess x x = true
  | [], _ => rfl
  | v :: x, h => by
    simp only [Toldss, Bool.and_eq_true] at h
    simp only [EV.samess, sames_refl v h.1, cond_true, samess_refl x h.2]
end

section
variable {T : Nat → Option Ent} {chk : List (Nat × Nat)} {B0 i : Nat} {l : List IOper} {fr : Fr} {m : Mem} {sn : List (Nat × Mem)} {se : List Seen} {d : Option Nat}
theorem exec_draw' : exec T (.draw l chk) fr m = drw T chk m.next l 0 fr (bump m l.length) [] [] := rfl
theorem drw_nil : drw T chk B0 [] i fr m sn se = some (.norm fr m) := drw_iff.2 ⟨0, rfl⟩
def thenL (o : Option EV) (k : EV → Option Out) : Option Out := match o with
  | some v => k v
  | none => none
@[congr] theorem thenL_congr {o o' : Option EV} {k : EV → Option Out} (h : o = o') : thenL o k = thenL o' k := by rw [h]
theorem thenL_some {v : EV} {k : EV → Option Out} : thenL (some v) k = k v := rfl
def ifB (b : Bool) (o : Option Out) : Option Out := bif b then o else none
@[congr] theorem ifB_congr {b b' : Bool} {o : Option Out} (h : b = b') : ifB b o = ifB b' o := by rw [h]
theorem ifB_true {o : Option Out} : ifB true o = o := rfl
theorem drw_v0 {op : IOp} (h : srt op = 0) : drw T chk B0 (⟨d, .val op, none⟩ :: l) i fr m sn se = thenV (evOp fr.eval op m) fun v _ => drw T chk B0 l (i + 1) (fr.put d v) m sn se := by
  refine opt_ext fun r => ?_
  rw [drw_iff]
  simp only [evDraw, wantedE, h]
  cases evOp fr.eval op m with
  | none => simp [thenV]
  | some q => obtain ⟨v, m1⟩ := q; simp only [thenV]; exact drw_iff.symm
theorem drw_v1 {op : IOp} (h : srt op = 1) : drw T chk B0 (⟨d, .val op, none⟩ :: l) i fr m sn se = thenV (evOp fr.eval op ⟨B0 + i, m.tbl⟩) fun v m1 => drw T chk B0 l (i + 1) (fr.put d v) ⟨m.next, m1.tbl⟩ sn se := by
  refine opt_ext fun r => ?_
  rw [drw_iff]
  simp only [evDraw, wantedE, h]
  cases evOp fr.eval op ⟨B0 + i, m.tbl⟩ with
  | none => simp [thenV]
  | some q => obtain ⟨v, m1⟩ := q; simp only [thenV]; exact drw_iff.symm
theorem drw_v3 {op : IOp} (h : srt op = 3) : drw T chk B0 (⟨d, .val op, none⟩ :: l) i fr m sn se = thenV (evOp fr.eval op m) fun v m' => ifB (checkSeen chk i m' se) (drw T chk B0 l (i + 1) (fr.put d v) m' ((i, m) :: sn) se) := by
  refine opt_ext fun r => ?_
  rw [drw_iff]
  simp only [evDraw, wantedE, h]
  cases evOp fr.eval op m with
  | none => simp [thenV]
  | some q =>
    obtain ⟨v, m1⟩ := q
    simp only [thenV]
    cases checkSeen chk i m1 se
    · simp [ifB]
    · simp only [ifB, cond_true]; exact drw_iff.symm
def ifF (a : EV) (x y : Option Out) : Option Out := bif isF a then x else y
@[congr] theorem ifF_congr {a a' : EV} {x y : Option Out} (h : a = a') : ifF a x y = ifF a' x y := by rw [h]
theorem ifF_ptr {b o : Nat} {x y : Option Out} : ifF (.ptr b o) x y = y := rfl
theorem ifF_fptr {e i k : Nat} {els : List (List EV)} {x y : Option Out} : ifF (.fptr e els i k) x y = x := rfl
theorem drw_load {agg : Option Nat} {a : Opd} : drw T chk B0 (⟨d, .val (.load agg a), none⟩ :: l) i fr m sn se = thenL (m.load agg (fr.eval a)) fun v => ifF (fr.eval a) (ifB (checkOld chk i m.next sn) (drw T chk B0 l (i + 1) (fr.put d v) m sn se)) (ifB (checkSnap chk i agg (fr.eval a) v sn) (drw T chk B0 l (i + 1) (fr.put d v) m sn (⟨i, agg, fr.eval a, v⟩ :: se))) := by
  refine opt_ext fun r => ?_
  rw [drw_iff]
  simp only [evDraw, wantedE, srt]
  cases m.load agg (fr.eval a) with
  | none => simp [thenL]
  | some v =>
    simp only [thenL, ifF]
    cases isF (fr.eval a)
    · simp only [cond_false]
      cases checkSnap chk i agg (fr.eval a) v sn
      · simp [ifB]
      · simp only [ifB, cond_true]; exact drw_iff.symm
    · simp only [cond_true]
      cases checkOld chk i m.next sn
      · simp [ifB]
      · simp only [ifB, cond_true]; exact drw_iff.symm
def thenD (o : Option Fin) (k : EV → Mem → Option Out) : Option Out := match o with
  | some (.ret v m) => k v m
  | _ => none
@[congr] theorem thenD_congr {o o' : Option Fin} {k : EV → Mem → Option Out} (h : o = o') : thenD o k = thenD o' k := by rw [h]
theorem thenD_ret {v : EV} {m : Mem} {k : EV → Mem → Option Out} : thenD (some (.ret v m)) k = k v m := rfl
theorem drw_call {x : Opd} {args : List Opd} : drw T chk B0 (⟨d, .call x args, none⟩ :: l) i fr m sn se = thenD (runV T (fr.eval x) (args.map fr.eval) m) fun v m' => ifB (checkSeen chk i m' se) (drw T chk B0 l (i + 1) (fr.put d v) m' ((i, m) :: sn) se) := by
  refine opt_ext fun r => ?_
  rw [drw_iff]
  simp only [evDraw, wantedE]
  cases hx : fr.eval x
  case func g a c =>
    simp only [evCall, runV]
    constructor
    · rintro ⟨k, h⟩
      cases hc : evFun T k g (a ++ args.map fr.eval ++ c) m with
      | none => rw [hc] at h; cases h
      | some q =>
        rw [run_iff.2 ⟨k, hc⟩]
        simp only [hc] at h
        cases q with
        | ret v m1 =>
          simp only [thenD]
          cases hk : checkSeen chk i m1 se
          · simp [hk] at h
          · simp only [hk, cond_true] at h
            simp only [ifB, cond_true]; exact drw_iff.2 ⟨k, h⟩
        | pan v m1 => simp at h
    · intro h
      cases hc : run T g (a ++ args.map fr.eval ++ c) m with
      | none => rw [hc] at h; cases h
      | some q =>
        obtain ⟨k1, h1⟩ := run_iff.1 hc
        rw [hc] at h
        cases q with
        | ret v m1 =>
          simp only [thenD] at h
          cases hk : checkSeen chk i m1 se
          · simp [hk, ifB] at h
          · simp only [hk, ifB, cond_true] at h
            obtain ⟨k2, h2⟩ := drw_iff.1 h
            refine ⟨max k1 k2, ?_⟩
            have e1 := mono_run _ _ _ (Nat.le_max_left k1 k2) h1
            have e2 := mono_drw _ _ _ (Nat.le_max_right k1 k2) h2
            simp only at e1 e2
            simp only [e1, hk, cond_true]; exact e2
        | pan v m1 => cases h
  all_goals simp [evCall, runV, thenD]
def noL (i : Nat) (chk : List (Nat × Nat)) : Bool := chk.all fun p => p.1 != i
def noA (j : Nat) (chk : List (Nat × Nat)) : Bool := chk.all fun p => p.2 != j
theorem noL_nil : noL i [] = true := rfl
theorem noL_cons {a b : Nat} : noL i ((a, b) :: chk) = (a != i && noL i chk) := rfl
theorem noA_nil : noA i [] = true := rfl
theorem noA_cons {a b : Nat} : noA i ((a, b) :: chk) = (b != i && noA i chk) := rfl
theorem noL_pair {j : Nat} : ∀ {chk : List (Nat × Nat)}, noL i chk = true → hasPair i j chk = false
  | [], _ => rfl
  | (a, b) :: chk, h => by
    simp only [noL_cons, Bool.and_eq_true, bne_iff_ne, ne_eq] at h
    simp only [hasPair, beq_ff h.1, cond_false]
    exact noL_pair h.2
theorem noA_pair {j : Nat} : ∀ {chk : List (Nat × Nat)}, noA j chk = true → hasPair i j chk = false
  | [], _ => rfl
  | (a, b) :: chk, h => by
    simp only [noA_cons, Bool.and_eq_true, bne_iff_ne, ne_eq] at h
    simp only [hasPair, beq_ff h.1, cond_false]
    rw [noA_pair h.2]; cases a.beq i <;> rfl
theorem snap_noL {agg : Option Nat} {a v : EV} (h : noL i chk = true) : ∀ sn, checkSnap chk i agg a v sn = true
  | [] => rfl
  | (j, m1) :: sn => by simp only [checkSnap, noL_pair h, cond_false]; exact snap_noL h sn
theorem old_noL {n : Nat} (h : noL i chk = true) : ∀ sn, checkOld chk i n sn = true
  | [] => rfl
  | (j, m1) :: sn => by simp only [checkOld, noL_pair h, cond_false]; exact old_noL h sn
theorem seen_noA {m : Mem} (h : noA i chk = true) : ∀ se, checkSeen chk i m se = true
  | [] => rfl
  | x :: se => by simp only [checkSeen, noA_pair h, cond_false]; exact seen_noA h se
def Same1 (chk : List (Nat × Nat)) (se se' : List Seen) : Prop := ∀ j m, checkSeen chk j m se = checkSeen chk j m se'
def Same2 (chk : List (Nat × Nat)) (sn sn' : List (Nat × Mem)) : Prop := (∀ i agg a v, checkSnap chk i agg a v sn = checkSnap chk i agg a v sn') ∧ ∀ i n, checkOld chk i n sn = checkOld chk i n sn'
theorem Same1.cons {se se' : List Seen} (h : Same1 chk se se') (x : Seen) : Same1 chk (x :: se) (x :: se') := fun j m => by simp only [checkSeen, h j m]
theorem Same2.cons {sn sn' : List (Nat × Mem)} (h : Same2 chk sn sn') (x : Nat × Mem) : Same2 chk (x :: sn) (x :: sn') := ⟨fun i agg a v => by obtain ⟨j, m⟩ := x; simp only [checkSnap, h.1 i agg a v], fun i n => by obtain ⟨j, m⟩ := x; simp only [checkOld, h.2 i n]⟩
theorem evDraw_same {call : Call} : ∀ (l : List IOper) (i : Nat) (fr : Fr) (m : Mem) (sn sn' : List (Nat × Mem)) (se se' : List Seen), Same2 chk sn sn' → Same1 chk se se' → evDraw call chk B0 l i fr m sn se = evDraw call chk B0 l i fr m sn' se'
  | [], i, fr, m, sn, sn', se, se', _, _ => rfl
  | o :: r, i, fr, m, sn, sn', se, se', h2, h1 => by
    have ih := fun i fr m sn sn' se se' h2 h1 => evDraw_same (call := call) r i fr m sn sn' se se' h2 h1
    simp only [evDraw]
    cases wantedE fr o.guard with
    | none => rfl
    | some b =>
    cases b with
    | false => exact ih _ _ _ _ _ _ _ h2 h1
    | true =>
      simp only
      cases o.op with
      | val op =>
        simp only
        split
        · cases evOp fr.eval op m with
          | none => rfl
          | some q => obtain ⟨v, m1⟩ := q; exact ih _ _ _ _ _ _ _ h2 h1
        · cases evOp fr.eval op ⟨B0 + i, m.tbl⟩ with
          | none => rfl
          | some q => obtain ⟨v, m1⟩ := q; exact ih _ _ _ _ _ _ _ h2 h1
        · split
          · rename_i agg x _
            cases m.load agg (fr.eval x) with
            | none => rfl
            | some v =>
              simp only [h2.1 i agg (fr.eval x) v, h2.2 i m.next]
              cases isF (fr.eval x)
              · simp only [cond_false]
                cases checkSnap chk i agg (fr.eval x) v sn'
                · rfl
                · simp only [cond_true]; exact ih _ _ _ _ _ _ _ h2 (h1.cons _)
              · simp only [cond_true]
                cases checkOld chk i m.next sn'
                · rfl
                · simp only [cond_true]; exact ih _ _ _ _ _ _ _ h2 h1
          · rfl
        · cases evOp fr.eval op m with
          | none => rfl
          | some q =>
            obtain ⟨v, m1⟩ := q
            simp only [h1 i m1]
            cases checkSeen chk i m1 se'
            · rfl
            · simp only [cond_true]; exact ih _ _ _ _ _ _ _ (h2.cons _) h1
      | call f args =>
        simp only
        cases evCall call (fr.eval f) (args.map fr.eval) m with
        | none => rfl
        | some q =>
          cases q with
          | ret v m1 =>
            simp only [h1 i m1]
            cases checkSeen chk i m1 se'
            · rfl
            · simp only [cond_true]; exact ih _ _ _ _ _ _ _ (h2.cons _) h1
          | pan v m1 => rfl
      | panic x => rfl
      | defer f x => rfl
theorem drw_same {sn' : List (Nat × Mem)} {se' : List Seen} (h2 : Same2 chk sn sn') (h1 : Same1 chk se se') : drw T chk B0 l i fr m sn se = drw T chk B0 l i fr m sn' se' := by
  unfold drw; congr 1; funext k; exact evDraw_same l i fr m sn sn' se se' h2 h1
theorem drw_seen {j : Nat} {agg : Option Nat} {a v : EV} (h : noL j chk = true) : drw T chk B0 l i fr m sn (⟨j, agg, a, v⟩ :: se) = drw T chk B0 l i fr m sn se :=
  drw_same ⟨fun _ _ _ _ => rfl, fun _ _ => rfl⟩ fun k m => by simp only [checkSeen, noL_pair h, cond_false]
theorem drw_snap {j : Nat} {m1 : Mem} (h : noA j chk = true) : drw T chk B0 l i fr m ((j, m1) :: sn) se = drw T chk B0 l i fr m sn se :=
  drw_same ⟨fun i agg a v => by simp only [checkSnap, noA_pair h, cond_false], fun i n => by simp only [checkOld, noA_pair h, cond_false]⟩ fun _ _ => rfl
theorem drw_load0 {agg : Option Nat} {a : Opd} (h : noL i chk = true) : drw T chk B0 (⟨d, .val (.load agg a), none⟩ :: l) i fr m sn se = thenL (m.load agg (fr.eval a)) fun v => drw T chk B0 l (i + 1) (fr.put d v) m sn se := by
  rw [drw_load]; cases m.load agg (fr.eval a) with
  | none => rfl
  | some v => simp only [thenL, snap_noL h, old_noL h, ifB_true, drw_seen h, ifF]; cases isF (fr.eval a) <;> rfl
theorem drw_load1 {agg : Option Nat} {a : Opd} (_h : noL i chk = false) : drw T chk B0 (⟨d, .val (.load agg a), none⟩ :: l) i fr m sn se = thenL (m.load agg (fr.eval a)) fun v => ifF (fr.eval a) (ifB (checkOld chk i m.next sn) (drw T chk B0 l (i + 1) (fr.put d v) m sn se)) (ifB (checkSnap chk i agg (fr.eval a) v sn) (drw T chk B0 l (i + 1) (fr.put d v) m sn (⟨i, agg, fr.eval a, v⟩ :: se))) := drw_load
theorem drw_v30 {op : IOp} (h : srt op = 3) (h0 : noA i chk = true) : drw T chk B0 (⟨d, .val op, none⟩ :: l) i fr m sn se = thenV (evOp fr.eval op m) fun v m' => drw T chk B0 l (i + 1) (fr.put d v) m' sn se := by
  rw [drw_v3 h]; cases evOp fr.eval op m with
  | none => rfl
  | some q => obtain ⟨v, m1⟩ := q; simp only [thenV, seen_noA h0, ifB_true, drw_snap h0]
theorem drw_v31 {op : IOp} (h : srt op = 3) (_h0 : noA i chk = false) : drw T chk B0 (⟨d, .val op, none⟩ :: l) i fr m sn se = thenV (evOp fr.eval op m) fun v m' => ifB (checkSeen chk i m' se) (drw T chk B0 l (i + 1) (fr.put d v) m' ((i, m) :: sn) se) := drw_v3 h
theorem drw_call0 {x : Opd} {args : List Opd} (h0 : noA i chk = true) : drw T chk B0 (⟨d, .call x args, none⟩ :: l) i fr m sn se = thenD (runV T (fr.eval x) (args.map fr.eval) m) fun v m' => drw T chk B0 l (i + 1) (fr.put d v) m' sn se := by
  rw [drw_call]; cases runV T (fr.eval x) (args.map fr.eval) m with
  | none => rfl
  | some q => cases q with
    | ret v m1 => simp only [thenD, seen_noA h0, ifB_true, drw_snap h0]
    | pan v m1 => rfl
theorem drw_call1 {x : Opd} {args : List Opd} (_h0 : noA i chk = false) : drw T chk B0 (⟨d, .call x args, none⟩ :: l) i fr m sn se = thenD (runV T (fr.eval x) (args.map fr.eval) m) fun v m' => ifB (checkSeen chk i m' se) (drw T chk B0 l (i + 1) (fr.put d v) m' ((i, m) :: sn) se) := drw_call
theorem drw_guard {op : XOp} {t : Nat} {w : Bool} : drw T chk B0 (⟨d, op, some (t, w)⟩ :: l) i fr m sn se = gE (fr.get t) w (drw T chk B0 (⟨d, op, none⟩ :: l) i fr m sn se) (drw T chk B0 l (i + 1) (fr.put d .undef) m sn se) := by
  cases h : fr.get t
  case bool b =>
    refine opt_ext fun r => ?_
    rw [drw_iff]
    simp only [evDraw, wantedE, h, gE]
    cases hb : b == w
    · simp only [cond_false]; exact drw_iff.symm
    · simp only [cond_true]
      rw [drw_iff]
      simp only [evDraw, wantedE]
  case undef =>
    refine opt_ext fun r => ?_
    rw [drw_iff]
    simp only [evDraw, wantedE, h, gE]
    exact drw_iff.symm
  all_goals
    refine opt_ext fun r => ?_
    rw [drw_iff]
    simp only [evDraw, wantedE, h, reduceCtorEq, exists_const, gE]
def retO (o : Option Fin) : Option R1 := match o with
  | some (.ret v m) => some (.val v m)
  | _ => none
theorem retO_ret {v : EV} {m : Mem} : retO (some (.ret v m)) = some (.val v m) := rfl
theorem thenD_eq {o : Option Fin} {k : EV → Mem → Option Out} : thenD o k = thenV (retO o) k := by cases o with | none => rfl | some q => cases q <;> rfl
theorem drw_gv0 {op : IOp} {t : Nat} {w : Bool} (h : srt op = 0) : drw T chk B0 (⟨d, .val op, some (t, w)⟩ :: l) i fr m sn se = gV (fr.get t) w m (evOp fr.eval op m) fun v _ => drw T chk B0 l (i + 1) (fr.put d v) m sn se := by rw [drw_guard, drw_v0 h]; rfl
theorem drw_gv1 {op : IOp} {t : Nat} {w : Bool} (h : srt op = 1) : drw T chk B0 (⟨d, .val op, some (t, w)⟩ :: l) i fr m sn se = gE (fr.get t) w (thenV (evOp fr.eval op ⟨B0 + i, m.tbl⟩) fun v m1 => drw T chk B0 l (i + 1) (fr.put d v) ⟨m.next, m1.tbl⟩ sn se) (drw T chk B0 l (i + 1) (fr.put d .undef) m sn se) := by rw [drw_guard, drw_v1 h]
theorem drw_gld0 {agg : Option Nat} {a : Opd} {t : Nat} {w : Bool} (h : noL i chk = true) : drw T chk B0 (⟨d, .val (.load agg a), some (t, w)⟩ :: l) i fr m sn se = gV (fr.get t) w m (ofEV m (m.load agg (fr.eval a))) fun v _ => drw T chk B0 l (i + 1) (fr.put d v) m sn se := by
  rw [drw_guard, drw_load0 h]; unfold gV
  cases m.load agg (fr.eval a) <;> rfl
theorem drw_gld1 {agg : Option Nat} {a : Opd} {t : Nat} {w : Bool} (_h : noL i chk = false) : drw T chk B0 (⟨d, .val (.load agg a), some (t, w)⟩ :: l) i fr m sn se = gE (fr.get t) w (thenL (m.load agg (fr.eval a)) fun v => ifF (fr.eval a) (ifB (checkOld chk i m.next sn) (drw T chk B0 l (i + 1) (fr.put d v) m sn se)) (ifB (checkSnap chk i agg (fr.eval a) v sn) (drw T chk B0 l (i + 1) (fr.put d v) m sn (⟨i, agg, fr.eval a, v⟩ :: se)))) (drw T chk B0 l (i + 1) (fr.put d .undef) m sn se) := by rw [drw_guard, drw_load]
theorem drw_gv30 {op : IOp} {t : Nat} {w : Bool} (h : srt op = 3) (h0 : noA i chk = true) : drw T chk B0 (⟨d, .val op, some (t, w)⟩ :: l) i fr m sn se = gV (fr.get t) w m (evOp fr.eval op m) fun v m' => drw T chk B0 l (i + 1) (fr.put d v) m' sn se := by rw [drw_guard, drw_v30 h h0]; rfl
theorem drw_gv31 {op : IOp} {t : Nat} {w : Bool} (h : srt op = 3) (_h0 : noA i chk = false) : drw T chk B0 (⟨d, .val op, some (t, w)⟩ :: l) i fr m sn se = gE (fr.get t) w (thenV (evOp fr.eval op m) fun v m' => ifB (checkSeen chk i m' se) (drw T chk B0 l (i + 1) (fr.put d v) m' ((i, m) :: sn) se)) (drw T chk B0 l (i + 1) (fr.put d .undef) m sn se) := by rw [drw_guard, drw_v3 h]
theorem drw_gcall0 {x : Opd} {args : List Opd} {t : Nat} {w : Bool} (h0 : noA i chk = true) : drw T chk B0 (⟨d, .call x args, some (t, w)⟩ :: l) i fr m sn se = gV (fr.get t) w m (retO (runV T (fr.eval x) (args.map fr.eval) m)) fun v m' => drw T chk B0 l (i + 1) (fr.put d v) m' sn se := by rw [drw_guard, drw_call0 h0, thenD_eq]; rfl
theorem drw_gcall1 {x : Opd} {args : List Opd} {t : Nat} {w : Bool} (_h0 : noA i chk = false) : drw T chk B0 (⟨d, .call x args, some (t, w)⟩ :: l) i fr m sn se = gE (fr.get t) w (thenD (runV T (fr.eval x) (args.map fr.eval) m) fun v m' => ifB (checkSeen chk i m' se) (drw T chk B0 l (i + 1) (fr.put d v) m' ((i, m) :: sn) se)) (drw T chk B0 l (i + 1) (fr.put d .undef) m sn se) := by rw [drw_guard, drw_call]
section
variable {p q : Prop} {x y : Option Out}
theorem gE_bo_t : gE (bo p) true x y = iF p x y := by by_cases h : p <;> simp [gE, bo, iF, h]
theorem gE_bo_f : gE (bo p) false x y = iF p y x := by by_cases h : p <;> simp [gE, bo, iF, h]
theorem gE_tt : gE (.bool true) true x y = x := rfl
theorem gE_tf : gE (.bool true) false x y = y := rfl
theorem gE_ft : gE (.bool false) true x y = y := rfl
theorem gE_ff : gE (.bool false) false x y = x := rfl
theorem gE_undef {w : Bool} : gE .undef w x y = y := rfl
theorem gE_gv_t : gE (gv p (bo q)) true x y = iF (p ∧ q) x y := by by_cases h : p <;> by_cases h' : q <;> simp [gE, bo, gv, iF, h, h']
theorem gE_gv_f : gE (gv p (bo q)) false x y = iF (p ∧ ¬ q) x y := by by_cases h : p <;> by_cases h' : q <;> simp [gE, bo, gv, iF, h, h']
theorem gE_gt_t : gE (gv p (.bool true)) true x y = iF p x y := by by_cases h : p <;> simp [gE, gv, iF, h]
theorem gE_gt_f : gE (gv p (.bool true)) false x y = y := by by_cases h : p <;> simp [gE, gv, h]
theorem gE_gf_t : gE (gv p (.bool false)) true x y = y := by by_cases h : p <;> simp [gE, gv, h]
theorem gE_gf_f : gE (gv p (.bool false)) false x y = iF p x y := by by_cases h : p <;> simp [gE, gv, iF, h]
end
theorem chk_nil {j : Nat} : checkSeen chk j m [] = true := rfl
theorem chk_cons {j : Nat} {s : Seen} : checkSeen chk j m (s :: se) = ((!hasPair s.i j chk || m.stands s.agg s.a s.v) && checkSeen chk j m se) := by
  simp only [checkSeen]; cases hasPair s.i j chk <;> simp
theorem snap_nil {agg : Option Nat} {a v : EV} : checkSnap chk i agg a v [] = true := rfl
theorem snap_cons {agg : Option Nat} {a v : EV} {j : Nat} {m1 : Mem} : checkSnap chk i agg a v ((j, m1) :: sn) = ((!hasPair i j chk || m1.stands agg a v) && checkSnap chk i agg a v sn) := by
  simp only [checkSnap]; cases hasPair i j chk <;> simp
theorem old_nil {n : Nat} : checkOld chk i n [] = true := rfl
theorem old_cons {n j : Nat} {m1 : Mem} : checkOld chk i n ((j, m1) :: sn) = ((!hasPair i j chk || m1.next.beq n) && checkOld chk i n sn) := by
  simp only [checkOld]; cases hasPair i j chk <;> cases m1.next.beq n <;> simp
theorem pair_nil {j : Nat} : hasPair i j [] = false := rfl
theorem pair_cons {j a b : Nat} : hasPair i j ((a, b) :: chk) = ((a == i && b == j) || hasPair i j chk) := by
  simp only [hasPair]
  have e : ∀ x y : Nat, x.beq y = (x == y) := fun x y => by
    by_cases h : x = y
    · subst h; simp
    · rw [beq_ff h]; simp [h]
  rw [e, e]
  cases a == i <;> cases b == j <;> simp
def standE (o : Option EV) (v : EV) : Bool := match o with
  | some x => EV.same x v
  | none => false
theorem stands_eq {agg : Option Nat} {a v : EV} : m.stands agg a v = standE (m.load agg a) v := by simp only [Mem.stands, standE]; cases m.load agg a <;> rfl
theorem standE_self {v : EV} (h : Told v = true) : standE (some v) v = true := same_refl v h
theorem told_bool {b : Bool} : Told (.bool b) = true := rfl
theorem told_bo {p : Prop} : Told (bo p) = true := rfl
theorem told_int {k : IntKind} {n : Int} : Told (.int k n) = true := rfl
theorem told_str {s : List UInt8} : Told (.str s) = true := rfl
theorem told_nilptr : Told .nilptr = true := rfl
theorem told_ptr {b o : Nat} : Told (.ptr b o) = true := rfl
theorem told_nilslice : Told .nilslice = true := rfl
theorem told_slice {b o l : Nat} {c : Option Nat} : Told (.slice b o l c) = true := rfl
theorem told_nilmap : Told .nilmap = true := rfl
theorem told_map {b : Nat} : Told (.map b) = true := rfl
theorem told_nilfunc : Told .nilfunc = true := rfl
theorem told_niliface : Told .niliface = true := rfl
theorem told_undef : Told .undef = true := rfl
theorem told_agg {x : List EV} : Told (.agg x) = Tolds x := by simp only [Told]
theorem told_tuple {x : List EV} : Told (.tuple x) = Tolds x := by simp only [Told]
theorem told_iface {t : Nat} {v : EV} : Told (.iface t v) = Told v := by simp only [Told]
theorem told_func {f : Nat} {x y : List EV} : Told (.func f x y) = (Tolds x && Tolds y) := by simp only [Told]
theorem tolds_nil : Tolds [] = true := rfl
theorem tolds_cons {v : EV} {x : List EV} : Tolds (v :: x) = (Told v && Tolds x) := by simp only [Tolds]
end

theorem eq_agg {fs : List (Option Nat × Nat × EqTy)} {a b : List EV} : evEq (.agg fs) (.agg a) (.agg b) = evEqs fs a b := rfl
def andO (o r : Option Bool) : Option Bool := match o with
  | some true => r
  | o => o
def eqsE (t : EqTy) (x y : Option EV) (r : Option Bool) : Option Bool := match x, y with
  | some x, some y => andO (evEq t x y) r
  | _, _ => none
theorem eqs_nil {a b : List EV} : evEqs [] a b = some true := rfl
theorem eqs_cons {g : Option Nat} {off : Nat} {t : EqTy} {r : List (Option Nat × Nat × EqTy)} {a b : List EV} : evEqs ((g, off, t) :: r) a b = eqsE t (partOf g a off) (partOf g b off) (evEqs r a b) := by
  simp only [evEqs, eqsE, andO]
  cases partOf g a off <;> cases partOf g b off <;> rfl
theorem eqsE_some {t : EqTy} {x y : EV} {r : Option Bool} : eqsE t (some x) (some y) r = andO (evEq t x y) r := rfl
theorem andO_true {r : Option Bool} : andO (some true) r = r := rfl
theorem andO_false {r : Option Bool} : andO (some false) r = some false := rfl
theorem andO_t {p : Prop} [Decidable p] : andO (some (decide p)) (some true) = some (decide p) := by by_cases h : p <;> simp [andO, h]
theorem andO_f {p : Prop} [Decidable p] : andO (some (decide p)) (some false) = some false := by by_cases h : p <;> simp [andO, h]
theorem andO_dec {p q : Prop} [Decidable p] [Decidable q] : andO (some (decide p)) (some (decide q)) = some (decide (p ∧ q)) := by by_cases h : p <;> by_cases h' : q <;> simp [andO, h, h']
def rcE (o : Option EV) (r : Option (List EV)) : Option (List EV) := match o with
  | some v => r.map (v :: ·)
  | none => none
theorem res_cell {fr : Fr} {m : Mem} {t : Nat} {agg : Option Nat} {rs : List IRes} : evResults fr m (.cell t agg :: rs) = rcE (m.load agg (fr.get t)) (evResults fr m rs) := by
  simp only [evResults, evRes, rcE]; cases m.load agg (fr.get t) <;> rfl
theorem rcE_some {v : EV} {r : Option (List EV)} : rcE (some v) r = r.map (v :: ·) := rfl

theorem eq_pn {b o : Nat} : evEq (.prim 3) (.ptr b o) .nilptr = some false := rfl
theorem eq_np {b o : Nat} : evEq (.prim 3) .nilptr (.ptr b o) = some false := rfl
theorem eq_nn : evEq (.prim 3) .nilptr .nilptr = some true := rfl
theorem eq_sn {b o l : Nat} {c : Option Nat} : evEq (.prim 4) (.slice b o l c) .nilslice = some false := rfl
theorem eq_ns {b o l : Nat} {c : Option Nat} : evEq (.prim 4) .nilslice (.slice b o l c) = some false := rfl
theorem eq_nsns : evEq (.prim 4) .nilslice .nilslice = some true := rfl
def Tells (m : Mem) (o : Option Fin) (v : EV) : Prop := ∃ m', o = some (.ret v m') ∧ Keeps m m'
theorem bo_iff' {p q : Prop} (h : p ↔ q) : bo p = bo q := by rw [propext h]
theorem tt_bo {p : Prop} (h : p) : EV.bool true = bo p := (bo_pos h).symm
theorem ff_bo {p : Prop} (h : ¬ p) : EV.bool false = bo p := (bo_neg h).symm
def bsE (e esz : Nat) (m : Mem) (vs : Option (List EV)) : Option R1 := match vs with
  | some vs => bif vs.length.beq esz then some (.val (.slice (nb m.next 0) 0 1 (some 1)) (Ev.ext m [.cells vs esz e false])) else none
  | none => none
theorem bsE_some {e esz : Nat} {m : Mem} {vs : List EV} (h : vs.length = esz) : bsE e esz m (some vs) = some (.val (.slice (nb m.next 0) 0 1 (some 1)) (Ev.ext m [.cells vs esz e false])) := by
  show (bif vs.length.beq esz then _ else _) = _
  rw [h, beq_self]; rfl
theorem evOp_bslice1 {ρ : Opd → EV} {m : Mem} {e esz : Nat} {zero : List EV} {x : Opd} (hz : zero.length = esz) : evOp ρ (.bslice e esz 1 zero [(0, x)]) m = bsE e esz m (ρ x).cells := by
  simp only [evOp, List.map_cons, List.map_nil, fill_cons, Nat.zero_mul]
  have hc : copies 1 zero = zero := by simp [copies]
  rw [hc]
  cases hx : (ρ x).cells with
  | none => rfl
  | some vs =>
    by_cases hl : vs.length = esz
    · rw [bsE_some hl, fillB_some hl (by omega)]
      simp only [fill_nil, List.take_zero, List.nil_append, Nat.zero_add]
      rw [List.drop_eq_nil_of_le (by omega), List.append_nil]; rfl
    · simp only [bsE, fillB, beq_ff hl, cond_false]
theorem evOp_bslice0 {ρ : Opd → EV} {m : Mem} {e esz : Nat} {zero : List EV} : evOp ρ (.bslice e esz 0 zero []) m = some (.val (.slice (nb m.next 0) 0 0 (some 0)) (Ev.ext m [.cells [] esz e false])) := by
  simp only [evOp, List.map_nil, fill_nil, copies, List.replicate_zero, List.flatten_nil]; rfl
end Go.Proofs.YtblcomejcahkdaaDoor.Ev
end
