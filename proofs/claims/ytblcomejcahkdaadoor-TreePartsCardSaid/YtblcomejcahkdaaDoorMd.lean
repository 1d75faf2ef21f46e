/- EvF3, EvF4, EvLaw, EvLim, EvSym, EvExt, EvLi, EvLj, EvHeap, EvDrw. -/
import Derived.Below
import Derived.Laws.Externs
import Derived.Lib.Bytealg
import Derived.KernelRfl
import Derived.Shelf.Strconv.Itoa3
import Derived.Test.YtblcomejcahkdaaDoorChecked
import Derived.Shelf.Strings.OnBuilder
import Derived.Test.YtblcomejcahkdaaDoorMc
set_option linter.unusedSimpArgs false
set_option linter.unusedVariables false
set_option linter.unusedSectionVars false
set_option linter.defProp false
set_option maxRecDepth 20000
set_option maxHeartbeats 8000000
namespace Go.Proofs.YtblcomejcahkdaaDoor.Ev
open Go
section
/- balustrade/balustraderef05.Name -/
abbrev Ct : Nat := 48
def eR : au :=
 (.seq
 (.seq
 (.region [iV 4 (.ab (tm 3)),
 iV 5 (.ab (tm 0)),
 iV 6 (.eH (tm 5)),
 iV 7 (.bin .lss (tm 4) (tm 6))])
 (.cond (.tmp 7)
 .skip
 (.exit 0)))
 (.seq
 (.block 1
 (.seq
 (.region [iV 10 (.ab (tm 0)),
 iV 11 (.ab (tm 3)),
 iV 12 (.cO (tm 10) (tm 11)),
 iC 13 58 [(tm 12)],
 iV 14 (.un .not (tm 13)),
 iV 15 (.ab (tm 14)),
 iG 16 (.ab (tm 3)) 15 true,
 iG 17 (.eq false (.ax 1) (tm 16) (kI 0)) 15 true,
 iG 18 (.ab (tm 17)) 15 true,
 iG 19 (.ab (tm 0)) 18 false,
 iG 20 (.ab (tm 3)) 18 false,
 iG 21 (.cO (tm 19) (tm 20)) 18 false,
 iH 22 59 [(tm 21)] 18 false,
 iG 23 (.un .not (tm 22)) 18 false,
 iG 24 (.pick (tm 18) (.const (.bool true)) (tm 23)) 15 true,
 iV 25 (.pick (tm 15) (tm 24) (.const (.bool false)))])
 (.cond (.tmp 25)
 (.seq
 (.region [iV 2 (.ab (.const (.bool false)))])
 .ret)
 .skip)))
 (.region [iV 8 (.ab (tm 3)),
 iV 9 (.bin .add (tm 8) (kI 1)),
 iV 3 (.ab (tm 9))])))
def gq : ar :=
 ⟨39,
 (.seq
 (.region [iV 2 (.ab (.const (.bool false)))])
 (.seq
 (.seq
 (.region [iV 3 (.ab (kI 0))])
 (.block 0
 (.loop eR)))
 (.seq
 (.region [iV 26 (.ab (tm 0)),
 iV 27 (.eH (tm 26)),
 iV 28 (.bin .gtr (tm 27) (kI 0)),
 iV 29 (.ab (tm 28)),
 iG 30 (.ab (tm 0)) 29 true,
 iG 31 (.eH (tm 30)) 29 true,
 iG 32 (.bin .leq (tm 31) (kI 32)) 29 true,
 iV 33 (.pick (tm 29) (tm 32) (.const (.bool false))),
 iV 34 (.ab (tm 33)),
 iG 35 (.ab (tm 0)) 34 true,
 iH 36 60 [(tm 35)] 34 true,
 iG 37 (.un .not (tm 36)) 34 true,
 iV 38 (.pick (tm 34) (tm 37) (.const (.bool false))),
 iV 2 (.ab (tm 38))])
 .ret))),
 [.tmp 2]⟩
theorem UL : b7 Tryd.prog G Tryd.f48 = some gq := by kernel_rfl
/- balustrade/balustraderef06.exprs -/
abbrev lC : Nat := 49
def dT : au :=
 (.seq
 (.seq
 (.region [iV 12 (.ab (tm 7)),
 iV 13 (.ab (tm 2)),
 iV 14 (.bin .lss (tm 12) (tm 13))])
 (.cond (.tmp 14)
 .skip
 (.exit 0)))
 (.seq
 (.block 1
 (.seq
 (.region [iV 17 (.ab (tm 0)),
 iV 18 (.ab (tm 1)),
 iV 19 (.ab (tm 7)),
 iV 20 (.ay 1 (tm 18) (tm 19)),
 iV 21 (.load none (tm 20)),
 iV 22 (.ay 5 (tm 17) (tm 21)),
 iV 23 (.ak 0 (tm 22)),
 iV 24 (.load none (tm 23)),
 iC 25 61 [(tm 24)],
 iV 26 (.un .not (tm 25))])
 (.cond (.tmp 26)
 (.seq
 (.region [iV 6 (.ab (.const (.bool false)))])
 .ret)
 .skip)))
 (.region [iV 15 (.ab (tm 7)),
 iV 16 (.bin .add (tm 15) (kI 1)),
 iV 7 (.ab (tm 16))])))
def eA : ar :=
 ⟨27,
 (.seq
 (.region [iV 6 (.ab (.const (.bool false)))])
 (.seq
 (.seq
 (.region [iV 8 (.ab (tm 1)),
 iV 9 (.len (tm 8)),
 iV 10 (.ab (tm 2)),
 iV 11 (.bin .lss (tm 9) (tm 10))])
 (.cond (.tmp 11)
 (.seq
 (.region [iV 6 (.ab (.const (.bool false)))])
 .ret)
 .skip))
 (.seq
 (.seq
 (.region [iV 7 (.ab (kI 0))])
 (.block 0
 (.loop dT)))
 (.seq
 (.region [iV 6 (.ab (.const (.bool true)))])
 .ret)))),
 [.tmp 6]⟩
theorem UK : b7 Tryd.prog G Tryd.f49 = some eA := by kernel_rfl
/- balustrade/balustraderef06.all -/
abbrev jz : Nat := 50
def fF : au :=
 (.seq
 (.seq
 (.region [iV 10 (.ab (tm 9)),
 iV 11 (.ab (tm 1)),
 iV 12 (.len (tm 11)),
 iV 13 (.bin .lss (tm 10) (tm 12))])
 (.cond (.tmp 13)
 .skip
 (.exit 0)))
 (.seq
 (.block 1
 (.seq
 (.region [iV 16 (.ab (tm 0)),
 iV 17 (.ab (tm 1)),
 iV 18 (.ab (tm 9)),
 iV 19 (.ay 1 (tm 17) (tm 18)),
 iV 20 (.load none (tm 19)),
 iV 21 (.ay 5 (tm 16) (tm 20)),
 iV 22 (.ak 0 (tm 21)),
 iV 23 (.load none (tm 22)),
 iV 24 (.ab (tm 2)),
 iV 25 (.eq true (.ax 1) (tm 23) (tm 24))])
 (.cond (.tmp 25)
 (.seq
 (.region [iV 8 (.ab (.const (.bool false)))])
 .ret)
 .skip)))
 (.region [iV 14 (.ab (tm 9)),
 iV 15 (.bin .add (tm 14) (kI 1)),
 iV 9 (.ab (tm 15))])))
def iD : ar :=
 ⟨30,
 (.seq
 (.region [iV 8 (.ab (.const (.bool false)))])
 (.seq
 (.seq
 (.region [iV 9 (.ab (kI 0))])
 (.block 0
 (.loop fF)))
 (.seq
 (.region [iV 26 (.ab (tm 1)),
 iV 27 (.len (tm 26)),
 iV 28 (.ab (tm 3)),
 iV 29 (.bin .leq (tm 27) (tm 28)),
 iV 8 (.ab (tm 29))])
 .ret))),
 [.tmp 8]⟩
theorem UJ : b7 Tryd.prog G Tryd.f50 = some iD := by kernel_rfl
/- balustrade/balustraderef06.Stmt -/
abbrev Cq : Nat := 51
def gj : ar :=
 ⟨9,
 (.seq
 (.region [iV 2 (.ab (.const (.bool false)))])
 (.seq
 (.region [iV 3 (.ab (tm 0)),
 iV 4 (.bin .geq (tm 3) (kI 12)),
 iV 5 (.ab (tm 4)),
 iG 6 (.ab (tm 0)) 5 true,
 iG 7 (.bin .leq (tm 6) (kI 22)) 5 true,
 iV 8 (.pick (tm 5) (tm 7) (.const (.bool false))),
 iV 2 (.ab (tm 8))])
 .ret)),
 [.tmp 2]⟩
theorem UI : b7 Tryd.prog G Tryd.f51 = some gj := by kernel_rfl
/- balustrade/tree.name -/
abbrev zN : Nat := 52
def vb : au :=
 (.seq
 (.region [iV 10 (.bin .lss (tm 9) (tm 8))])
 (.seq
 (.cond (.tmp 10)
 .skip
 (.exit 0))
 (.seq
 (.block 1
 (.seq
 (.region [iV 11 (.ab (tm 9)),
 iV 12 (.ay 1 (tm 7) (tm 9)),
 iV 13 (.load none (tm 12)),
 iV 3 (.ab (tm 11)),
 iV 4 (.ab (tm 13))])
 (.seq
 (.region [iV 14 (.ab (tm 4)),
 iV 15 (.bin .or (tm 14) (.const (.int .u8 32))),
 iV 16 (.bin .geq (tm 15) (.const (.int .u8 97))),
 iV 17 (.ab (tm 16)),
 iG 18 (.ab (tm 4)) 17 true,
 iG 19 (.bin .or (tm 18) (.const (.int .u8 32))) 17 true,
 iG 20 (.bin .leq (tm 19) (.const (.int .u8 122))) 17 true,
 iV 21 (.pick (tm 17) (tm 20) (.const (.bool false))),
 iV 22 (.ab (tm 21)),
 iG 23 (.ab (tm 4)) 22 false,
 iG 24 (.eq false (.ax 1) (tm 23) (.const (.int .u8 95))) 22 false,
 iV 25 (.pick (tm 22) (.const (.bool true)) (tm 24)),
 iV 5 (.ab (tm 25))])
 (.seq
 (.region [iV 26 (.ab (tm 5)),
 iV 27 (.un .not (tm 26)),
 iV 28 (.ab (tm 27)),
 iG 29 (.ab (tm 3)) 28 true,
 iG 30 (.eq false (.ax 1) (tm 29) (kI 0)) 28 true,
 iG 31 (.ab (tm 30)) 28 true,
 iG 32 (.ab (tm 4)) 31 false,
 iG 33 (.bin .lss (tm 32) (.const (.int .u8 48))) 31 false,
 iG 34 (.pick (tm 31) (.const (.bool true)) (tm 33)) 28 true,
 iG 35 (.ab (tm 34)) 28 true,
 iG 36 (.ab (tm 4)) 35 false,
 iG 37 (.bin .gtr (tm 36) (.const (.int .u8 57))) 35 false,
 iG 38 (.pick (tm 35) (.const (.bool true)) (tm 37)) 28 true,
 iV 39 (.pick (tm 28) (tm 38) (.const (.bool false)))])
 (.cond (.tmp 39)
 (.seq
 (.region [iV 2 (.ab (.const (.bool false)))])
 .ret)
 .skip)))))
 (.region [iV 40 (.bin .add (tm 9) (kI 1)),
 iV 9 (.ab (tm 40))]))))
def j7 : ar :=
 ⟨54,
 (.seq
 (.region [iV 2 (.ab (.const (.bool false)))])
 (.seq
 (.seq
 (.region [iV 6 (.ab (tm 0)),
 iV 7 (.conv (.bytes 5) (tm 6)),
 iV 8 (.len (tm 7)),
 iV 9 (.ab (kI 0))])
 (.block 0
 (.loop vb)))
 (.seq
 (.region [iV 41 (.ab (tm 0)),
 iV 42 (.eq true (.ax 2) (tm 41) (kS [])),
 iV 43 (.ab (tm 42)),
 iG 44 (.ab (tm 0)) 43 true,
 iG 45 (.eH (tm 44)) 43 true,
 iG 46 (.bin .leq (tm 45) (kI 32)) 43 true,
 iV 47 (.pick (tm 43) (tm 46) (.const (.bool false))),
 iV 48 (.ab (tm 47)),
 iG 49 (.load none (.const (.ptr 1 0))) 48 true,
 iG 50 (.ab (tm 0)) 48 true,
 iH 51 62 [(tm 49), (tm 50)] 48 true,
 iG 52 (.un .not (tm 51)) 48 true,
 iV 53 (.pick (tm 48) (tm 52) (.const (.bool false))),
 iV 2 (.ab (tm 53))])
 .ret))),
 [.tmp 2]⟩
theorem UH : b7 Tryd.prog G Tryd.f52 = some j7 := by kernel_rfl
/- balustrade/tree.is -/
abbrev Ge : Nat := 53
def dM : ar :=
 ⟨36,
 (.seq
 (.region [iV 4 (.ab (.const (.bool false)))])
 (.seq
 (.seq
 (.region [iV 5 (.ab (tm 1))])
 (.block 0
 (.seq
 (.region [iV 7 (.eq false (.ax 1) (tm 5) (kI 0)),
 iV 6 (.ab (tm 7))])
 (.cond (.tmp 6)
 (.seq
 (.region [iV 8 (.ab (tm 0)),
 iV 9 (.bin .geq (tm 8) (kI 1)),
 iV 10 (.ab (tm 9)),
 iG 11 (.ab (tm 0)) 10 true,
 iG 12 (.bin .leq (tm 11) (kI 11)) 10 true,
 iV 13 (.pick (tm 10) (tm 12) (.const (.bool false))),
 iV 4 (.ab (tm 13))])
 .ret)
 (.seq
 (.region [iV 15 (.eq false (.ax 1) (tm 5) (kI 1)),
 iV 14 (.ab (tm 15))])
 (.cond (.tmp 14)
 (.seq
 (.region [iV 16 (.ab (tm 0)),
 iV 17 (.bin .geq (tm 16) (kI 12)),
 iV 18 (.ab (tm 17)),
 iG 19 (.ab (tm 0)) 18 true,
 iG 20 (.bin .leq (tm 19) (kI 22)) 18 true,
 iV 21 (.pick (tm 18) (tm 20) (.const (.bool false))),
 iV 4 (.ab (tm 21))])
 .ret)
 (.seq
 (.region [iV 23 (.eq false (.ax 1) (tm 5) (kI 2)),
 iV 22 (.ab (tm 23))])
 (.cond (.tmp 22)
 (.seq
 (.region [iV 24 (.ab (tm 0)),
 iV 25 (.eq false (.ax 1) (tm 24) (kI 23)),
 iV 4 (.ab (tm 25))])
 .ret)
 (.seq
 (.region [iV 27 (.eq false (.ax 1) (tm 5) (kI 3)),
 iV 26 (.ab (tm 27))])
 (.cond (.tmp 26)
 (.seq
 (.region [iV 28 (.ab (tm 0)),
 iV 29 (.eq false (.ax 1) (tm 28) (kI 11)),
 iV 4 (.ab (tm 29))])
 .ret)
 (.seq
 (.region [iV 31 (.eq false (.ax 1) (tm 5) (kI 4)),
 iV 30 (.ab (tm 31))])
 (.cond (.tmp 30)
 (.seq
 (.region [iV 32 (.ab (tm 0)),
 iV 33 (.eq false (.ax 1) (tm 32) (kI 24)),
 iV 4 (.ab (tm 33))])
 .ret)
 .skip))))))))))))
 (.seq
 (.region [iV 34 (.ab (tm 0)),
 iV 35 (.eq false (.ax 1) (tm 34) (kI 25)),
 iV 4 (.ab (tm 35))])
 .ret))),
 [.tmp 4]⟩
theorem UG : b7 Tryd.prog G Tryd.f53 = some dM := by kernel_rfl
/- slices.Index[[]bool,bool] -/
abbrev ot : Nat := 54
def bD : au :=
 (.seq
 (.region [iV 9 (.bin .lss (tm 8) (tm 7))])
 (.seq
 (.cond (.tmp 9)
 .skip
 (.exit 0))
 (.seq
 (.block 1
 (.seq
 (.region [iV 10 (.ab (tm 8)),
 iV 5 (.ab (tm 10))])
 (.seq
 (.region [iV 11 (.ab (tm 1)),
 iV 12 (.ab (tm 0)),
 iV 13 (.ab (tm 5)),
 iV 14 (.ay 1 (tm 12) (tm 13)),
 iV 15 (.load none (tm 14)),
 iV 16 (.eq false (.ax 0) (tm 11) (tm 15))])
 (.cond (.tmp 16)
 (.seq
 (.region [iV 17 (.ab (tm 5)),
 iV 4 (.ab (tm 17))])
 .ret)
 .skip))))
 (.region [iV 18 (.bin .add (tm 8) (kI 1)),
 iV 8 (.ab (tm 18))]))))
def bZ : ar :=
 ⟨19,
 (.seq
 (.region [iV 4 (.ab (kI 0))])
 (.seq
 (.seq
 (.region [iV 6 (.ab (tm 0)),
 iV 7 (.len (tm 6)),
 iV 8 (.ab (kI 0))])
 (.block 0
 (.loop bD)))
 (.seq
 (.region [iV 4 (.ab (kI (-1)))])
 .ret))),
 [.tmp 4]⟩
theorem UF : b7 Tryd.prog G Tryd.f54 = some bZ := by kernel_rfl
/- internal/strconv.FormatInt -/
abbrev sy : Nat := 55
def bC : ar :=
 ⟨54,
 (.seq
 (.region [iV 4 (.ab (kS []))])
 (.seq
 (.seq
 (.region [iV 10 (.ab (tm 1)),
 iV 11 (.eq false (.ax 1) (tm 10) (kI 10))])
 (.cond (.tmp 11)
 (.seq
 (.seq
 (.region [iV 12 (.ab (tm 0)),
 iV 13 (.bin .leq (kI 0) (tm 12)),
 iV 14 (.ab (tm 13)),
 iG 15 (.ab (tm 0)) 14 true,
 iG 16 (.bin .lss (tm 15) (kI 100)) 14 true,
 iV 17 (.pick (tm 14) (tm 16) (.const (.bool false)))])
 (.cond (.tmp 17)
 (.seq
 (.region [iV 18 (.ab (tm 0)),
 iC 19 63 [(tm 18)],
 iV 4 (.ab (tm 19))])
 .ret)
 .skip))
 (.seq
 (.region [iV 5 (.alloc 78 [(.int .u8 0), (.int .u8 0), (.int .u8 0), (.int .u8 0), (.int .u8 0), (.int .u8 0), (.int .u8 0), (.int .u8 0), (.int .u8 0), (.int .u8 0), (.int .u8 0), (.int .u8 0), (.int .u8 0), (.int .u8 0), (.int .u8 0), (.int .u8 0), (.int .u8 0), (.int .u8 0), (.int .u8 0), (.int .u8 0), (.int .u8 0), (.int .u8 0), (.int .u8 0), (.int .u8 0)])])
 (.seq
 (.region [iV 20 (.ab (tm 0)),
 iV 21 (.conv (.int .u64) (tm 20)),
 iV 6 (.ab (tm 21))])
 (.seq
 (.seq
 (.region [iV 22 (.ab (tm 0)),
 iV 23 (.bin .lss (tm 22) (kI 0))])
 (.cond (.tmp 23)
 (.region [iV 24 (.ab (tm 6)),
 iV 25 (.un .neg (tm 24)),
 iV 6 (.ab (tm 25))])
 .skip))
 (.seq
 (.region [iV 26 (.ab (tm 6)),
 iC 27 64 [(tm 26)],
 iV 7 (.ab (tm 27))])
 (.seq
 (.region [iV 28 (.ab (tm 7)),
 iV 29 (.bin .add (kI 1) (tm 28)),
 iV 30 (.kU 24 1 (tm 5) (some (kI 1)) (some (tm 29)) none),
 iV 31 (.ab (tm 6)),
 iC 32 65 [(tm 30), (tm 31)]])
 (.seq
 (.seq
 (.region [iV 33 (.ab (tm 0)),
 iV 34 (.bin .lss (tm 33) (kI 0))])
 (.cond (.tmp 34)
 (.seq
 (.region [iV 35 (.c7 24 1 (tm 5) (kI 0)),
 iN (.store 1 (tm 35) (.const (.int .u8 45)))])
 (.seq
 (.region [iV 36 (.ab (tm 7)),
 iV 37 (.bin .add (kI 1) (tm 36)),
 iV 38 (.kU 24 1 (tm 5) none (some (tm 37)) none),
 iV 39 (.conv .text (tm 38)),
 iV 4 (.ab (tm 39))])
 .ret))
 .skip))
 (.seq
 (.region [iV 40 (.ab (tm 7)),
 iV 41 (.bin .add (kI 1) (tm 40)),
 iV 42 (.kU 24 1 (tm 5) (some (kI 1)) (some (tm 41)) none),
 iV 43 (.conv .text (tm 42)),
 iV 4 (.ab (tm 43))])
 .ret))))))))
 .skip))
 (.seq
 (.region [iV 45 (.ab (tm 0)),
 iV 46 (.conv (.int .u64) (tm 45)),
 iV 47 (.ab (tm 1)),
 iV 48 (.ab (tm 0)),
 iV 49 (.bin .lss (tm 48) (kI 0)),
 iC 50 66 [(.const .aa), (tm 46), (tm 47), (tm 49), (.const (.bool false))],
 iV 44 (.ab (tm 50)),
 iV 51 (.extract (tm 44) 0),
 iV 52 (.extract (tm 44) 1),
 iV 8 (.ab (tm 51)),
 iV 9 (.ab (tm 52))])
 (.seq
 (.region [iV 53 (.ab (tm 9)),
 iV 4 (.ab (tm 53))])
 .ret)))),
 [.tmp 4]⟩
theorem UE : b7 Tryd.prog G Tryd.f55 = some bC := by kernel_rfl
/- (*strings.Builder).grow -/
abbrev xL : Nat := 57
def je : ar :=
 ⟨30,
 (.seq
 (.draw [iV 5 (.ab (tm 0)),
 iV 6 (.kn (tm 5)),
 iV 7 (.ak 1 (tm 6)),
 iV 8 (.load none (tm 7)),
 iV 9 (.cap (tm 8)),
 iV 10 (.bin .mul (kI 2) (tm 9)),
 iV 11 (.ab (tm 1)),
 iV 12 (.bin .add (tm 10) (tm 11)),
 iC 13 68 [(tm 12)],
 iV 14 (.ab (tm 0)),
 iV 15 (.kn (tm 14)),
 iV 16 (.ak 1 (tm 15)),
 iV 17 (.load none (tm 16)),
 iV 18 (.len (tm 17)),
 iV 19 (.lp 1 (tm 13) none (some (tm 18)) none),
 iV 4 (.ab (tm 19))] [(12, 8)])
 (.seq
 (.region [iV 20 (.ab (tm 4)),
 iV 21 (.ab (tm 0)),
 iV 22 (.kn (tm 21)),
 iV 23 (.ak 1 (tm 22)),
 iV 24 (.load none (tm 23)),
 iV 25 (.copy 1 (tm 20) (tm 24))])
 (.region [iV 26 (.ab (tm 0)),
 iV 27 (.ab (tm 4)),
 iV 28 (.kn (tm 26)),
 iV 29 (.ak 1 (tm 28)),
 iN (.store 1 (tm 29) (tm 27))]))),
 []⟩
theorem UD : b7 Tryd.prog G Tryd.f57 = some je := by kernel_rfl
/- balustrade/balustraderef05.Letter -/
abbrev xN : Nat := 58
def eC : ar :=
 ⟨21,
 (.seq
 (.region [iV 2 (.ab (.const (.bool false)))])
 (.seq
 (.region [iV 3 (.ab (tm 0)),
 iV 4 (.bin .geq (tm 3) (.const (.int .u8 97))),
 iV 5 (.ab (tm 4)),
 iG 6 (.ab (tm 0)) 5 true,
 iG 7 (.bin .leq (tm 6) (.const (.int .u8 122))) 5 true,
 iV 8 (.pick (tm 5) (tm 7) (.const (.bool false))),
 iV 9 (.ab (tm 8)),
 iG 10 (.ab (tm 0)) 9 false,
 iG 11 (.bin .geq (tm 10) (.const (.int .u8 65))) 9 false,
 iG 12 (.ab (tm 11)) 9 false,
 iG 13 (.ab (tm 0)) 12 true,
 iG 14 (.bin .leq (tm 13) (.const (.int .u8 90))) 12 true,
 iG 15 (.pick (tm 12) (tm 14) (.const (.bool false))) 9 false,
 iV 16 (.pick (tm 9) (.const (.bool true)) (tm 15)),
 iV 17 (.ab (tm 16)),
 iG 18 (.ab (tm 0)) 17 false,
 iG 19 (.eq false (.ax 1) (tm 18) (.const (.int .u8 95))) 17 false,
 iV 20 (.pick (tm 17) (.const (.bool true)) (tm 19)),
 iV 2 (.ab (tm 20))])
 .ret)),
 [.tmp 2]⟩
theorem UC : b7 Tryd.prog G Tryd.f58 = some eC := by kernel_rfl
/- balustrade/balustraderef05.Digit -/
abbrev zS : Nat := 59
def fp : ar :=
 ⟨9,
 (.seq
 (.region [iV 2 (.ab (.const (.bool false)))])
 (.seq
 (.region [iV 3 (.ab (tm 0)),
 iV 4 (.bin .geq (tm 3) (.const (.int .u8 48))),
 iV 5 (.ab (tm 4)),
 iG 6 (.ab (tm 0)) 5 true,
 iG 7 (.bin .leq (tm 6) (.const (.int .u8 57))) 5 true,
 iV 8 (.pick (tm 5) (tm 7) (.const (.bool false))),
 iV 2 (.ab (tm 8))])
 .ret)),
 [.tmp 2]⟩
theorem UB : b7 Tryd.prog G Tryd.f59 = some fp := by kernel_rfl
/- balustrade/balustraderef05.Word -/
abbrev Cs : Nat := 60
def eQ : au :=
 (.seq
 (.seq
 (.region [iV 6 (.ab (tm 4)),
 iV 7 (.ab (tm 3)),
 iV 8 (.len (tm 7)),
 iV 9 (.bin .lss (tm 6) (tm 8))])
 (.cond (.tmp 9)
 .skip
 (.exit 0)))
 (.seq
 (.block 1
 (.seq
 (.region [iV 12 (.ab (tm 3)),
 iV 13 (.ab (tm 4)),
 iV 14 (.ay 1 (tm 12) (tm 13)),
 iV 15 (.load none (tm 14)),
 iV 16 (.ab (tm 0)),
 iV 17 (.eq false (.ax 2) (tm 15) (tm 16))])
 (.cond (.tmp 17)
 (.seq
 (.region [iV 2 (.ab (.const (.bool true)))])
 .ret)
 .skip)))
 (.region [iV 10 (.ab (tm 4)),
 iV 11 (.bin .add (tm 10) (kI 1)),
 iV 4 (.ab (tm 11))])))
def gn : ar :=
 ⟨18,
 (.seq
 (.region [iV 2 (.ab (.const (.bool false)))])
 (.seq
 (.region [iC 5 69 [],
 iV 3 (.ab (tm 5))])
 (.seq
 (.seq
 (.region [iV 4 (.ab (kI 0))])
 (.block 0
 (.loop eQ)))
 (.seq
 (.region [iV 2 (.ab (.const (.bool false)))])
 .ret)))),
 [.tmp 2]⟩
theorem UA : b7 Tryd.prog G Tryd.f60 = some gn := by kernel_rfl
/- balustrade/balustraderef06.Expr -/
abbrev Cr : Nat := 61
def gl : ar :=
 ⟨9,
 (.seq
 (.region [iV 2 (.ab (.const (.bool false)))])
 (.seq
 (.region [iV 3 (.ab (tm 0)),
 iV 4 (.bin .geq (tm 3) (kI 1)),
 iV 5 (.ab (tm 4)),
 iG 6 (.ab (tm 0)) 5 true,
 iG 7 (.bin .leq (tm 6) (kI 11)) 5 true,
 iV 8 (.pick (tm 5) (tm 7) (.const (.bool false))),
 iV 2 (.ab (tm 8))])
 .ret)),
 [.tmp 2]⟩
theorem Uz : b7 Tryd.prog G Tryd.f61 = some gl := by kernel_rfl
/- slices.Contains[[]string,string] -/
abbrev lO : Nat := 62
def bi : ar :=
 ⟨9,
 (.seq
 (.region [iV 4 (.ab (.const (.bool false)))])
 (.seq
 (.region [iV 5 (.ab (tm 0)),
 iV 6 (.ab (tm 1)),
 iC 7 41 [(tm 5), (tm 6)],
 iV 8 (.bin .geq (tm 7) (kI 0)),
 iV 4 (.ab (tm 8))])
 .ret)),
 [.tmp 4]⟩
theorem Uy : b7 Tryd.prog G Tryd.f62 = some bi := by kernel_rfl
/- internal/strconv.small -/
abbrev vC : Nat := 63
def bX : ar :=
 ⟨15,
 (.seq
 (.region [iV 2 (.ab (kS []))])
 (.seq
 (.seq
 (.region [iV 3 (.ab (tm 0)),
 iV 4 (.bin .lss (tm 3) (kI 10))])
 (.cond (.tmp 4)
 (.seq
 (.region [iV 5 (.ab (tm 0)),
 iV 6 (.ab (tm 0)),
 iV 7 (.bin .add (tm 6) (kI 1)),
 iV 8 (.mW (kS [48, 49, 50, 51, 52, 53, 54, 55, 56, 57, 97, 98, 99, 100, 101, 102, 103, 104, 105, 106, 107, 108, 109, 110, 111, 112, 113, 114, 115, 116, 117, 118, 119, 120, 121, 122]) (some (tm 5)) (some (tm 7))),
 iV 2 (.ab (tm 8))])
 .ret)
 .skip))
 (.seq
 (.region [iV 9 (.ab (tm 0)),
 iV 10 (.bin .mul (tm 9) (kI 2)),
 iV 11 (.ab (tm 0)),
 iV 12 (.bin .mul (tm 11) (kI 2)),
 iV 13 (.bin .add (tm 12) (kI 2)),
 iV 14 (.mW (kS [48, 48, 48, 49, 48, 50, 48, 51, 48, 52, 48, 53, 48, 54, 48, 55, 48, 56, 48, 57, 49, 48, 49, 49, 49, 50, 49, 51, 49, 52, 49, 53, 49, 54, 49, 55, 49, 56, 49, 57, 50, 48, 50, 49, 50, 50, 50, 51, 50, 52, 50, 53, 50, 54, 50, 55, 50, 56, 50, 57, 51, 48, 51, 49, 51, 50, 51, 51, 51, 52, 51, 53, 51, 54, 51, 55, 51, 56, 51, 57, 52, 48, 52, 49, 52, 50, 52, 51, 52, 52, 52, 53, 52, 54, 52, 55, 52, 56, 52, 57, 53, 48, 53, 49, 53, 50, 53, 51, 53, 52, 53, 53, 53, 54, 53, 55, 53, 56, 53, 57, 54, 48, 54, 49, 54, 50, 54, 51, 54, 52, 54, 53, 54, 54, 54, 55, 54, 56, 54, 57, 55, 48, 55, 49, 55, 50, 55, 51, 55, 52, 55, 53, 55, 54, 55, 55, 55, 56, 55, 57, 56, 48, 56, 49, 56, 50, 56, 51, 56, 52, 56, 53, 56, 54, 56, 55, 56, 56, 56, 57, 57, 48, 57, 49, 57, 50, 57, 51, 57, 52, 57, 53, 57, 54, 57, 55, 57, 56, 57, 57]) (some (tm 10)) (some (tm 13))),
 iV 2 (.ab (tm 14))])
 .ret))),
 [.tmp 2]⟩
theorem Ux : b7 Tryd.prog G Tryd.f63 = some bX := by kernel_rfl
/- internal/strconv.numDigits -/
abbrev sv : Nat := 64
def fK : ar :=
 ⟨15,
 (.seq
 (.region [iV 2 (.ab (kI 0))])
 (.seq
 (.region [iV 4 (.ab (tm 0)),
 iC 5 71 [(tm 4)],
 iC 6 70 [(tm 5)],
 iV 3 (.ab (tm 6))])
 (.seq
 (.region [iV 7 (.ab (tm 3)),
 iV 8 (.ab (tm 0)),
 iV 9 (.ab (tm 3)),
 iV 10 (.c7 20 1 (.const (.ptr 2 0)) (tm 9)),
 iV 11 (.load none (tm 10)),
 iV 12 (.bin .geq (tm 8) (tm 11)),
 iC 13 72 [(tm 12)],
 iV 14 (.bin .add (tm 7) (tm 13)),
 iV 2 (.ab (tm 14))])
 .ret))),
 [.tmp 2]⟩
theorem Uw : b7 Tryd.prog G Tryd.f64 = some fK := by kernel_rfl
/- internal/strconv.formatBase10 -/
abbrev qG : Nat := 65
def ig : au :=
 (.seq
 (.seq
 (.region [iV 19 (.ab (tm 4)),
 iV 20 (.bin .geq (tm 19) (kI 8))])
 (.cond (.tmp 20)
 .skip
 (.exit 0)))
 (.block 1
 (.seq
 (.region [iV 21 (.ab (tm 1)),
 iV 22 (.bin .rem (tm 21) (.const (.int .u64 100000000))),
 iV 23 (.conv (.int .u32) (tm 22)),
 iV 5 (.ab (tm 23))])
 (.seq
 (.region [iV 24 (.ab (tm 1)),
 iV 25 (.bin .quo (tm 24) (.const (.int .u64 100000000))),
 iV 1 (.ab (tm 25))])
 (.seq
 (.region [iV 26 (.ab (tm 5)),
 iV 27 (.bin .quo (tm 26) (.const (.int .u32 10000))),
 iV 28 (.ab (tm 5)),
 iV 29 (.bin .rem (tm 28) (.const (.int .u32 10000))),
 iV 6 (.ab (tm 27)),
 iV 7 (.ab (tm 29))])
 (.seq
 (.region [iV 30 (.ab (tm 7)),
 iV 31 (.bin .quo (tm 30) (.const (.int .u32 100))),
 iV 32 (.bin .mul (tm 31) (.const (.int .u32 2))),
 iV 33 (.ab (tm 7)),
 iV 34 (.bin .rem (tm 33) (.const (.int .u32 100))),
 iV 35 (.bin .mul (tm 34) (.const (.int .u32 2))),
 iV 8 (.ab (tm 32)),
 iV 9 (.ab (tm 35))])
 (.seq
 (.region [iV 36 (.ab (tm 6)),
 iV 37 (.bin .quo (tm 36) (.const (.int .u32 100))),
 iV 38 (.bin .mul (tm 37) (.const (.int .u32 2))),
 iV 39 (.ab (tm 6)),
 iV 40 (.bin .rem (tm 39) (.const (.int .u32 100))),
 iV 41 (.bin .mul (tm 40) (.const (.int .u32 2))),
 iV 10 (.ab (tm 38)),
 iV 11 (.ab (tm 41))])
 (.seq
 (.draw [iV 42 (.ab (tm 0)),
 iV 43 (.ab (tm 4)),
 iV 44 (.bin .sub (tm 43) (kI 1)),
 iV 45 (.ab (tm 0)),
 iV 46 (.ab (tm 4)),
 iV 47 (.bin .sub (tm 46) (kI 2)),
 iV 48 (.ab (tm 9)),
 iV 49 (.bin .add (tm 48) (.const (.int .u32 1))),
 iV 50 (.cO (kS [48, 48, 48, 49, 48, 50, 48, 51, 48, 52, 48, 53, 48, 54, 48, 55, 48, 56, 48, 57, 49, 48, 49, 49, 49, 50, 49, 51, 49, 52, 49, 53, 49, 54, 49, 55, 49, 56, 49, 57, 50, 48, 50, 49, 50, 50, 50, 51, 50, 52, 50, 53, 50, 54, 50, 55, 50, 56, 50, 57, 51, 48, 51, 49, 51, 50, 51, 51, 51, 52, 51, 53, 51, 54, 51, 55, 51, 56, 51, 57, 52, 48, 52, 49, 52, 50, 52, 51, 52, 52, 52, 53, 52, 54, 52, 55, 52, 56, 52, 57, 53, 48, 53, 49, 53, 50, 53, 51, 53, 52, 53, 53, 53, 54, 53, 55, 53, 56, 53, 57, 54, 48, 54, 49, 54, 50, 54, 51, 54, 52, 54, 53, 54, 54, 54, 55, 54, 56, 54, 57, 55, 48, 55, 49, 55, 50, 55, 51, 55, 52, 55, 53, 55, 54, 55, 55, 55, 56, 55, 57, 56, 48, 56, 49, 56, 50, 56, 51, 56, 52, 56, 53, 56, 54, 56, 55, 56, 56, 56, 57, 57, 48, 57, 49, 57, 50, 57, 51, 57, 52, 57, 53, 57, 54, 57, 55, 57, 56, 57, 57]) (tm 49)),
 iV 51 (.ab (tm 9)),
 iV 52 (.cO (kS [48, 48, 48, 49, 48, 50, 48, 51, 48, 52, 48, 53, 48, 54, 48, 55, 48, 56, 48, 57, 49, 48, 49, 49, 49, 50, 49, 51, 49, 52, 49, 53, 49, 54, 49, 55, 49, 56, 49, 57, 50, 48, 50, 49, 50, 50, 50, 51, 50, 52, 50, 53, 50, 54, 50, 55, 50, 56, 50, 57, 51, 48, 51, 49, 51, 50, 51, 51, 51, 52, 51, 53, 51, 54, 51, 55, 51, 56, 51, 57, 52, 48, 52, 49, 52, 50, 52, 51, 52, 52, 52, 53, 52, 54, 52, 55, 52, 56, 52, 57, 53, 48, 53, 49, 53, 50, 53, 51, 53, 52, 53, 53, 53, 54, 53, 55, 53, 56, 53, 57, 54, 48, 54, 49, 54, 50, 54, 51, 54, 52, 54, 53, 54, 54, 54, 55, 54, 56, 54, 57, 55, 48, 55, 49, 55, 50, 55, 51, 55, 52, 55, 53, 55, 54, 55, 55, 55, 56, 55, 57, 56, 48, 56, 49, 56, 50, 56, 51, 56, 52, 56, 53, 56, 54, 56, 55, 56, 56, 56, 57, 57, 48, 57, 49, 57, 50, 57, 51, 57, 52, 57, 53, 57, 54, 57, 55, 57, 56, 57, 57]) (tm 51)),
 iV 53 (.ay 1 (tm 42) (tm 44)),
 iN (.store 1 (tm 53) (tm 50)),
 iV 54 (.ay 1 (tm 45) (tm 47)),
 iN (.store 1 (tm 54) (tm 52))] [])
 (.seq
 (.draw [iV 55 (.ab (tm 0)),
 iV 56 (.ab (tm 4)),
 iV 57 (.bin .sub (tm 56) (kI 3)),
 iV 58 (.ab (tm 0)),
 iV 59 (.ab (tm 4)),
 iV 60 (.bin .sub (tm 59) (kI 4)),
 iV 61 (.ab (tm 8)),
 iV 62 (.bin .add (tm 61) (.const (.int .u32 1))),
 iV 63 (.cO (kS [48, 48, 48, 49, 48, 50, 48, 51, 48, 52, 48, 53, 48, 54, 48, 55, 48, 56, 48, 57, 49, 48, 49, 49, 49, 50, 49, 51, 49, 52, 49, 53, 49, 54, 49, 55, 49, 56, 49, 57, 50, 48, 50, 49, 50, 50, 50, 51, 50, 52, 50, 53, 50, 54, 50, 55, 50, 56, 50, 57, 51, 48, 51, 49, 51, 50, 51, 51, 51, 52, 51, 53, 51, 54, 51, 55, 51, 56, 51, 57, 52, 48, 52, 49, 52, 50, 52, 51, 52, 52, 52, 53, 52, 54, 52, 55, 52, 56, 52, 57, 53, 48, 53, 49, 53, 50, 53, 51, 53, 52, 53, 53, 53, 54, 53, 55, 53, 56, 53, 57, 54, 48, 54, 49, 54, 50, 54, 51, 54, 52, 54, 53, 54, 54, 54, 55, 54, 56, 54, 57, 55, 48, 55, 49, 55, 50, 55, 51, 55, 52, 55, 53, 55, 54, 55, 55, 55, 56, 55, 57, 56, 48, 56, 49, 56, 50, 56, 51, 56, 52, 56, 53, 56, 54, 56, 55, 56, 56, 56, 57, 57, 48, 57, 49, 57, 50, 57, 51, 57, 52, 57, 53, 57, 54, 57, 55, 57, 56, 57, 57]) (tm 62)),
 iV 64 (.ab (tm 8)),
 iV 65 (.cO (kS [48, 48, 48, 49, 48, 50, 48, 51, 48, 52, 48, 53, 48, 54, 48, 55, 48, 56, 48, 57, 49, 48, 49, 49, 49, 50, 49, 51, 49, 52, 49, 53, 49, 54, 49, 55, 49, 56, 49, 57, 50, 48, 50, 49, 50, 50, 50, 51, 50, 52, 50, 53, 50, 54, 50, 55, 50, 56, 50, 57, 51, 48, 51, 49, 51, 50, 51, 51, 51, 52, 51, 53, 51, 54, 51, 55, 51, 56, 51, 57, 52, 48, 52, 49, 52, 50, 52, 51, 52, 52, 52, 53, 52, 54, 52, 55, 52, 56, 52, 57, 53, 48, 53, 49, 53, 50, 53, 51, 53, 52, 53, 53, 53, 54, 53, 55, 53, 56, 53, 57, 54, 48, 54, 49, 54, 50, 54, 51, 54, 52, 54, 53, 54, 54, 54, 55, 54, 56, 54, 57, 55, 48, 55, 49, 55, 50, 55, 51, 55, 52, 55, 53, 55, 54, 55, 55, 55, 56, 55, 57, 56, 48, 56, 49, 56, 50, 56, 51, 56, 52, 56, 53, 56, 54, 56, 55, 56, 56, 56, 57, 57, 48, 57, 49, 57, 50, 57, 51, 57, 52, 57, 53, 57, 54, 57, 55, 57, 56, 57, 57]) (tm 64)),
 iV 66 (.ay 1 (tm 55) (tm 57)),
 iN (.store 1 (tm 66) (tm 63)),
 iV 67 (.ay 1 (tm 58) (tm 60)),
 iN (.store 1 (tm 67) (tm 65))] [])
 (.seq
 (.draw [iV 68 (.ab (tm 0)),
 iV 69 (.ab (tm 4)),
 iV 70 (.bin .sub (tm 69) (kI 5)),
 iV 71 (.ab (tm 0)),
 iV 72 (.ab (tm 4)),
 iV 73 (.bin .sub (tm 72) (kI 6)),
 iV 74 (.ab (tm 11)),
 iV 75 (.bin .add (tm 74) (.const (.int .u32 1))),
 iV 76 (.cO (kS [48, 48, 48, 49, 48, 50, 48, 51, 48, 52, 48, 53, 48, 54, 48, 55, 48, 56, 48, 57, 49, 48, 49, 49, 49, 50, 49, 51, 49, 52, 49, 53, 49, 54, 49, 55, 49, 56, 49, 57, 50, 48, 50, 49, 50, 50, 50, 51, 50, 52, 50, 53, 50, 54, 50, 55, 50, 56, 50, 57, 51, 48, 51, 49, 51, 50, 51, 51, 51, 52, 51, 53, 51, 54, 51, 55, 51, 56, 51, 57, 52, 48, 52, 49, 52, 50, 52, 51, 52, 52, 52, 53, 52, 54, 52, 55, 52, 56, 52, 57, 53, 48, 53, 49, 53, 50, 53, 51, 53, 52, 53, 53, 53, 54, 53, 55, 53, 56, 53, 57, 54, 48, 54, 49, 54, 50, 54, 51, 54, 52, 54, 53, 54, 54, 54, 55, 54, 56, 54, 57, 55, 48, 55, 49, 55, 50, 55, 51, 55, 52, 55, 53, 55, 54, 55, 55, 55, 56, 55, 57, 56, 48, 56, 49, 56, 50, 56, 51, 56, 52, 56, 53, 56, 54, 56, 55, 56, 56, 56, 57, 57, 48, 57, 49, 57, 50, 57, 51, 57, 52, 57, 53, 57, 54, 57, 55, 57, 56, 57, 57]) (tm 75)),
 iV 77 (.ab (tm 11)),
 iV 78 (.cO (kS [48, 48, 48, 49, 48, 50, 48, 51, 48, 52, 48, 53, 48, 54, 48, 55, 48, 56, 48, 57, 49, 48, 49, 49, 49, 50, 49, 51, 49, 52, 49, 53, 49, 54, 49, 55, 49, 56, 49, 57, 50, 48, 50, 49, 50, 50, 50, 51, 50, 52, 50, 53, 50, 54, 50, 55, 50, 56, 50, 57, 51, 48, 51, 49, 51, 50, 51, 51, 51, 52, 51, 53, 51, 54, 51, 55, 51, 56, 51, 57, 52, 48, 52, 49, 52, 50, 52, 51, 52, 52, 52, 53, 52, 54, 52, 55, 52, 56, 52, 57, 53, 48, 53, 49, 53, 50, 53, 51, 53, 52, 53, 53, 53, 54, 53, 55, 53, 56, 53, 57, 54, 48, 54, 49, 54, 50, 54, 51, 54, 52, 54, 53, 54, 54, 54, 55, 54, 56, 54, 57, 55, 48, 55, 49, 55, 50, 55, 51, 55, 52, 55, 53, 55, 54, 55, 55, 55, 56, 55, 57, 56, 48, 56, 49, 56, 50, 56, 51, 56, 52, 56, 53, 56, 54, 56, 55, 56, 56, 56, 57, 57, 48, 57, 49, 57, 50, 57, 51, 57, 52, 57, 53, 57, 54, 57, 55, 57, 56, 57, 57]) (tm 77)),
 iV 79 (.ay 1 (tm 68) (tm 70)),
 iN (.store 1 (tm 79) (tm 76)),
 iV 80 (.ay 1 (tm 71) (tm 73)),
 iN (.store 1 (tm 80) (tm 78))] [])
 (.seq
 (.draw [iV 81 (.ab (tm 0)),
 iV 82 (.ab (tm 4)),
 iV 83 (.bin .sub (tm 82) (kI 7)),
 iV 84 (.ab (tm 0)),
 iV 85 (.ab (tm 4)),
 iV 86 (.bin .sub (tm 85) (kI 8)),
 iV 87 (.ab (tm 10)),
 iV 88 (.bin .add (tm 87) (.const (.int .u32 1))),
 iV 89 (.cO (kS [48, 48, 48, 49, 48, 50, 48, 51, 48, 52, 48, 53, 48, 54, 48, 55, 48, 56, 48, 57, 49, 48, 49, 49, 49, 50, 49, 51, 49, 52, 49, 53, 49, 54, 49, 55, 49, 56, 49, 57, 50, 48, 50, 49, 50, 50, 50, 51, 50, 52, 50, 53, 50, 54, 50, 55, 50, 56, 50, 57, 51, 48, 51, 49, 51, 50, 51, 51, 51, 52, 51, 53, 51, 54, 51, 55, 51, 56, 51, 57, 52, 48, 52, 49, 52, 50, 52, 51, 52, 52, 52, 53, 52, 54, 52, 55, 52, 56, 52, 57, 53, 48, 53, 49, 53, 50, 53, 51, 53, 52, 53, 53, 53, 54, 53, 55, 53, 56, 53, 57, 54, 48, 54, 49, 54, 50, 54, 51, 54, 52, 54, 53, 54, 54, 54, 55, 54, 56, 54, 57, 55, 48, 55, 49, 55, 50, 55, 51, 55, 52, 55, 53, 55, 54, 55, 55, 55, 56, 55, 57, 56, 48, 56, 49, 56, 50, 56, 51, 56, 52, 56, 53, 56, 54, 56, 55, 56, 56, 56, 57, 57, 48, 57, 49, 57, 50, 57, 51, 57, 52, 57, 53, 57, 54, 57, 55, 57, 56, 57, 57]) (tm 88)),
 iV 90 (.ab (tm 10)),
 iV 91 (.cO (kS [48, 48, 48, 49, 48, 50, 48, 51, 48, 52, 48, 53, 48, 54, 48, 55, 48, 56, 48, 57, 49, 48, 49, 49, 49, 50, 49, 51, 49, 52, 49, 53, 49, 54, 49, 55, 49, 56, 49, 57, 50, 48, 50, 49, 50, 50, 50, 51, 50, 52, 50, 53, 50, 54, 50, 55, 50, 56, 50, 57, 51, 48, 51, 49, 51, 50, 51, 51, 51, 52, 51, 53, 51, 54, 51, 55, 51, 56, 51, 57, 52, 48, 52, 49, 52, 50, 52, 51, 52, 52, 52, 53, 52, 54, 52, 55, 52, 56, 52, 57, 53, 48, 53, 49, 53, 50, 53, 51, 53, 52, 53, 53, 53, 54, 53, 55, 53, 56, 53, 57, 54, 48, 54, 49, 54, 50, 54, 51, 54, 52, 54, 53, 54, 54, 54, 55, 54, 56, 54, 57, 55, 48, 55, 49, 55, 50, 55, 51, 55, 52, 55, 53, 55, 54, 55, 55, 55, 56, 55, 57, 56, 48, 56, 49, 56, 50, 56, 51, 56, 52, 56, 53, 56, 54, 56, 55, 56, 56, 56, 57, 57, 48, 57, 49, 57, 50, 57, 51, 57, 52, 57, 53, 57, 54, 57, 55, 57, 56, 57, 57]) (tm 90)),
 iV 92 (.ay 1 (tm 81) (tm 83)),
 iN (.store 1 (tm 92) (tm 89)),
 iV 93 (.ay 1 (tm 84) (tm 86)),
 iN (.store 1 (tm 93) (tm 91))] [])
 (.region [iV 94 (.ab (tm 4)),
 iV 95 (.bin .sub (tm 94) (kI 8)),
 iV 4 (.ab (tm 95))]))))))))))))
def bd : ar :=
 ⟨167,
 (.seq
 (.region [iV 17 (.ab (tm 0)),
 iV 18 (.len (tm 17)),
 iV 4 (.ab (tm 18))])
 (.seq
 (.block 0
 (.loop ig))
 (.seq
 (.region [iV 96 (.ab (tm 1)),
 iV 97 (.conv (.int .u32) (tm 96)),
 iV 12 (.ab (tm 97))])
 (.seq
 (.seq
 (.region [iV 98 (.ab (tm 4)),
 iV 99 (.bin .geq (tm 98) (kI 4))])
 (.cond (.tmp 99)
 (.seq
 (.region [iV 100 (.ab (tm 12)),
 iV 101 (.bin .rem (tm 100) (.const (.int .u32 10000))),
 iV 13 (.ab (tm 101))])
 (.seq
 (.region [iV 102 (.ab (tm 12)),
 iV 103 (.bin .quo (tm 102) (.const (.int .u32 10000))),
 iV 12 (.ab (tm 103))])
 (.seq
 (.region [iV 104 (.ab (tm 13)),
 iV 105 (.bin .quo (tm 104) (.const (.int .u32 100))),
 iV 106 (.bin .mul (tm 105) (.const (.int .u32 2))),
 iV 107 (.ab (tm 13)),
 iV 108 (.bin .rem (tm 107) (.const (.int .u32 100))),
 iV 109 (.bin .mul (tm 108) (.const (.int .u32 2))),
 iV 14 (.ab (tm 106)),
 iV 15 (.ab (tm 109))])
 (.seq
 (.draw [iV 110 (.ab (tm 0)),
 iV 111 (.ab (tm 4)),
 iV 112 (.bin .sub (tm 111) (kI 1)),
 iV 113 (.ab (tm 0)),
 iV 114 (.ab (tm 4)),
 iV 115 (.bin .sub (tm 114) (kI 2)),
 iV 116 (.ab (tm 15)),
 iV 117 (.bin .add (tm 116) (.const (.int .u32 1))),
 iV 118 (.cO (kS [48, 48, 48, 49, 48, 50, 48, 51, 48, 52, 48, 53, 48, 54, 48, 55, 48, 56, 48, 57, 49, 48, 49, 49, 49, 50, 49, 51, 49, 52, 49, 53, 49, 54, 49, 55, 49, 56, 49, 57, 50, 48, 50, 49, 50, 50, 50, 51, 50, 52, 50, 53, 50, 54, 50, 55, 50, 56, 50, 57, 51, 48, 51, 49, 51, 50, 51, 51, 51, 52, 51, 53, 51, 54, 51, 55, 51, 56, 51, 57, 52, 48, 52, 49, 52, 50, 52, 51, 52, 52, 52, 53, 52, 54, 52, 55, 52, 56, 52, 57, 53, 48, 53, 49, 53, 50, 53, 51, 53, 52, 53, 53, 53, 54, 53, 55, 53, 56, 53, 57, 54, 48, 54, 49, 54, 50, 54, 51, 54, 52, 54, 53, 54, 54, 54, 55, 54, 56, 54, 57, 55, 48, 55, 49, 55, 50, 55, 51, 55, 52, 55, 53, 55, 54, 55, 55, 55, 56, 55, 57, 56, 48, 56, 49, 56, 50, 56, 51, 56, 52, 56, 53, 56, 54, 56, 55, 56, 56, 56, 57, 57, 48, 57, 49, 57, 50, 57, 51, 57, 52, 57, 53, 57, 54, 57, 55, 57, 56, 57, 57]) (tm 117)),
 iV 119 (.ab (tm 15)),
 iV 120 (.cO (kS [48, 48, 48, 49, 48, 50, 48, 51, 48, 52, 48, 53, 48, 54, 48, 55, 48, 56, 48, 57, 49, 48, 49, 49, 49, 50, 49, 51, 49, 52, 49, 53, 49, 54, 49, 55, 49, 56, 49, 57, 50, 48, 50, 49, 50, 50, 50, 51, 50, 52, 50, 53, 50, 54, 50, 55, 50, 56, 50, 57, 51, 48, 51, 49, 51, 50, 51, 51, 51, 52, 51, 53, 51, 54, 51, 55, 51, 56, 51, 57, 52, 48, 52, 49, 52, 50, 52, 51, 52, 52, 52, 53, 52, 54, 52, 55, 52, 56, 52, 57, 53, 48, 53, 49, 53, 50, 53, 51, 53, 52, 53, 53, 53, 54, 53, 55, 53, 56, 53, 57, 54, 48, 54, 49, 54, 50, 54, 51, 54, 52, 54, 53, 54, 54, 54, 55, 54, 56, 54, 57, 55, 48, 55, 49, 55, 50, 55, 51, 55, 52, 55, 53, 55, 54, 55, 55, 55, 56, 55, 57, 56, 48, 56, 49, 56, 50, 56, 51, 56, 52, 56, 53, 56, 54, 56, 55, 56, 56, 56, 57, 57, 48, 57, 49, 57, 50, 57, 51, 57, 52, 57, 53, 57, 54, 57, 55, 57, 56, 57, 57]) (tm 119)),
 iV 121 (.ay 1 (tm 110) (tm 112)),
 iN (.store 1 (tm 121) (tm 118)),
 iV 122 (.ay 1 (tm 113) (tm 115)),
 iN (.store 1 (tm 122) (tm 120))] [])
 (.seq
 (.draw [iV 123 (.ab (tm 0)),
 iV 124 (.ab (tm 4)),
 iV 125 (.bin .sub (tm 124) (kI 3)),
 iV 126 (.ab (tm 0)),
 iV 127 (.ab (tm 4)),
 iV 128 (.bin .sub (tm 127) (kI 4)),
 iV 129 (.ab (tm 14)),
 iV 130 (.bin .add (tm 129) (.const (.int .u32 1))),
 iV 131 (.cO (kS [48, 48, 48, 49, 48, 50, 48, 51, 48, 52, 48, 53, 48, 54, 48, 55, 48, 56, 48, 57, 49, 48, 49, 49, 49, 50, 49, 51, 49, 52, 49, 53, 49, 54, 49, 55, 49, 56, 49, 57, 50, 48, 50, 49, 50, 50, 50, 51, 50, 52, 50, 53, 50, 54, 50, 55, 50, 56, 50, 57, 51, 48, 51, 49, 51, 50, 51, 51, 51, 52, 51, 53, 51, 54, 51, 55, 51, 56, 51, 57, 52, 48, 52, 49, 52, 50, 52, 51, 52, 52, 52, 53, 52, 54, 52, 55, 52, 56, 52, 57, 53, 48, 53, 49, 53, 50, 53, 51, 53, 52, 53, 53, 53, 54, 53, 55, 53, 56, 53, 57, 54, 48, 54, 49, 54, 50, 54, 51, 54, 52, 54, 53, 54, 54, 54, 55, 54, 56, 54, 57, 55, 48, 55, 49, 55, 50, 55, 51, 55, 52, 55, 53, 55, 54, 55, 55, 55, 56, 55, 57, 56, 48, 56, 49, 56, 50, 56, 51, 56, 52, 56, 53, 56, 54, 56, 55, 56, 56, 56, 57, 57, 48, 57, 49, 57, 50, 57, 51, 57, 52, 57, 53, 57, 54, 57, 55, 57, 56, 57, 57]) (tm 130)),
 iV 132 (.ab (tm 14)),
 iV 133 (.cO (kS [48, 48, 48, 49, 48, 50, 48, 51, 48, 52, 48, 53, 48, 54, 48, 55, 48, 56, 48, 57, 49, 48, 49, 49, 49, 50, 49, 51, 49, 52, 49, 53, 49, 54, 49, 55, 49, 56, 49, 57, 50, 48, 50, 49, 50, 50, 50, 51, 50, 52, 50, 53, 50, 54, 50, 55, 50, 56, 50, 57, 51, 48, 51, 49, 51, 50, 51, 51, 51, 52, 51, 53, 51, 54, 51, 55, 51, 56, 51, 57, 52, 48, 52, 49, 52, 50, 52, 51, 52, 52, 52, 53, 52, 54, 52, 55, 52, 56, 52, 57, 53, 48, 53, 49, 53, 50, 53, 51, 53, 52, 53, 53, 53, 54, 53, 55, 53, 56, 53, 57, 54, 48, 54, 49, 54, 50, 54, 51, 54, 52, 54, 53, 54, 54, 54, 55, 54, 56, 54, 57, 55, 48, 55, 49, 55, 50, 55, 51, 55, 52, 55, 53, 55, 54, 55, 55, 55, 56, 55, 57, 56, 48, 56, 49, 56, 50, 56, 51, 56, 52, 56, 53, 56, 54, 56, 55, 56, 56, 56, 57, 57, 48, 57, 49, 57, 50, 57, 51, 57, 52, 57, 53, 57, 54, 57, 55, 57, 56, 57, 57]) (tm 132)),
 iV 134 (.ay 1 (tm 123) (tm 125)),
 iN (.store 1 (tm 134) (tm 131)),
 iV 135 (.ay 1 (tm 126) (tm 128)),
 iN (.store 1 (tm 135) (tm 133))] [])
 (.region [iV 136 (.ab (tm 4)),
 iV 137 (.bin .sub (tm 136) (kI 4)),
 iV 4 (.ab (tm 137))]))))))
 .skip))
 (.seq
 (.seq
 (.region [iV 138 (.ab (tm 4)),
 iV 139 (.bin .geq (tm 138) (kI 2))])
 (.cond (.tmp 139)
 (.seq
 (.region [iV 140 (.ab (tm 12)),
 iV 141 (.bin .rem (tm 140) (.const (.int .u32 100))),
 iV 142 (.bin .mul (tm 141) (.const (.int .u32 2))),
 iV 16 (.ab (tm 142))])
 (.seq
 (.region [iV 143 (.ab (tm 12)),
 iV 144 (.bin .quo (tm 143) (.const (.int .u32 100))),
 iV 12 (.ab (tm 144))])
 (.seq
 (.draw [iV 145 (.ab (tm 0)),
 iV 146 (.ab (tm 4)),
 iV 147 (.bin .sub (tm 146) (kI 1)),
 iV 148 (.ab (tm 0)),
 iV 149 (.ab (tm 4)),
 iV 150 (.bin .sub (tm 149) (kI 2)),
 iV 151 (.ab (tm 16)),
 iV 152 (.bin .add (tm 151) (.const (.int .u32 1))),
 iV 153 (.cO (kS [48, 48, 48, 49, 48, 50, 48, 51, 48, 52, 48, 53, 48, 54, 48, 55, 48, 56, 48, 57, 49, 48, 49, 49, 49, 50, 49, 51, 49, 52, 49, 53, 49, 54, 49, 55, 49, 56, 49, 57, 50, 48, 50, 49, 50, 50, 50, 51, 50, 52, 50, 53, 50, 54, 50, 55, 50, 56, 50, 57, 51, 48, 51, 49, 51, 50, 51, 51, 51, 52, 51, 53, 51, 54, 51, 55, 51, 56, 51, 57, 52, 48, 52, 49, 52, 50, 52, 51, 52, 52, 52, 53, 52, 54, 52, 55, 52, 56, 52, 57, 53, 48, 53, 49, 53, 50, 53, 51, 53, 52, 53, 53, 53, 54, 53, 55, 53, 56, 53, 57, 54, 48, 54, 49, 54, 50, 54, 51, 54, 52, 54, 53, 54, 54, 54, 55, 54, 56, 54, 57, 55, 48, 55, 49, 55, 50, 55, 51, 55, 52, 55, 53, 55, 54, 55, 55, 55, 56, 55, 57, 56, 48, 56, 49, 56, 50, 56, 51, 56, 52, 56, 53, 56, 54, 56, 55, 56, 56, 56, 57, 57, 48, 57, 49, 57, 50, 57, 51, 57, 52, 57, 53, 57, 54, 57, 55, 57, 56, 57, 57]) (tm 152)),
 iV 154 (.ab (tm 16)),
 iV 155 (.cO (kS [48, 48, 48, 49, 48, 50, 48, 51, 48, 52, 48, 53, 48, 54, 48, 55, 48, 56, 48, 57, 49, 48, 49, 49, 49, 50, 49, 51, 49, 52, 49, 53, 49, 54, 49, 55, 49, 56, 49, 57, 50, 48, 50, 49, 50, 50, 50, 51, 50, 52, 50, 53, 50, 54, 50, 55, 50, 56, 50, 57, 51, 48, 51, 49, 51, 50, 51, 51, 51, 52, 51, 53, 51, 54, 51, 55, 51, 56, 51, 57, 52, 48, 52, 49, 52, 50, 52, 51, 52, 52, 52, 53, 52, 54, 52, 55, 52, 56, 52, 57, 53, 48, 53, 49, 53, 50, 53, 51, 53, 52, 53, 53, 53, 54, 53, 55, 53, 56, 53, 57, 54, 48, 54, 49, 54, 50, 54, 51, 54, 52, 54, 53, 54, 54, 54, 55, 54, 56, 54, 57, 55, 48, 55, 49, 55, 50, 55, 51, 55, 52, 55, 53, 55, 54, 55, 55, 55, 56, 55, 57, 56, 48, 56, 49, 56, 50, 56, 51, 56, 52, 56, 53, 56, 54, 56, 55, 56, 56, 56, 57, 57, 48, 57, 49, 57, 50, 57, 51, 57, 52, 57, 53, 57, 54, 57, 55, 57, 56, 57, 57]) (tm 154)),
 iV 156 (.ay 1 (tm 145) (tm 147)),
 iN (.store 1 (tm 156) (tm 153)),
 iV 157 (.ay 1 (tm 148) (tm 150)),
 iN (.store 1 (tm 157) (tm 155))] [])
 (.region [iV 158 (.ab (tm 4)),
 iV 159 (.bin .sub (tm 158) (kI 2)),
 iV 4 (.ab (tm 159))]))))
 .skip))
 (.seq
 (.region [iV 160 (.ab (tm 4)),
 iV 161 (.bin .gtr (tm 160) (kI 0))])
 (.cond (.tmp 161)
 (.region [iV 162 (.ab (tm 0)),
 iV 163 (.ab (tm 12)),
 iV 164 (.bin .add (.const (.int .u32 48)) (tm 163)),
 iV 165 (.conv (.int .u8) (tm 164)),
 iV 166 (.ay 1 (tm 162) (kI 0)),
 iN (.store 1 (tm 166) (tm 165))])
 .skip))))))),
 []⟩
theorem Uv : b7 Tryd.prog G Tryd.f65 = some bd := by kernel_rfl
end
section
/- internal/strconv.formatBits -/
abbrev rS : Nat := 66
def jh : au :=
 (.seq
 (.seq
 (.region [iV 44 (.ab (tm 1)),
 iV 45 (.ab (tm 15)),
 iV 46 (.bin .geq (tm 44) (tm 45))])
 (.cond (.tmp 46)
 .skip
 (.exit 0)))
 (.block 1
 (.seq
 (.region [iV 47 (.ab (tm 13)),
 iV 48 (.bin .sub (tm 47) (kI 1)),
 iV 13 (.ab (tm 48))])
 (.seq
 (.region [iV 49 (.ab (tm 13)),
 iV 50 (.ab (tm 1)),
 iV 51 (.ab (tm 16)),
 iV 52 (.bin .and (tm 50) (tm 51)),
 iV 53 (.cO (kS [48, 49, 50, 51, 52, 53, 54, 55, 56, 57, 97, 98, 99, 100, 101, 102, 103, 104, 105, 106, 107, 108, 109, 110, 111, 112, 113, 114, 115, 116, 117, 118, 119, 120, 121, 122]) (tm 52)),
 iV 54 (.c7 65 1 (tm 12) (tm 49)),
 iN (.store 1 (tm 54) (tm 53))])
 (.region [iV 55 (.ab (tm 1)),
 iV 56 (.ab (tm 14)),
 iV 57 (.bin .shr (tm 55) (tm 56)),
 iV 1 (.ab (tm 57))])))))
def jg : au :=
 (.seq
 (.seq
 (.region [iV 66 (.ab (tm 1)),
 iV 67 (.ab (tm 17)),
 iV 68 (.bin .geq (tm 66) (tm 67))])
 (.cond (.tmp 68)
 .skip
 (.exit 2)))
 (.block 3
 (.seq
 (.region [iV 69 (.ab (tm 13)),
 iV 70 (.bin .sub (tm 69) (kI 1)),
 iV 13 (.ab (tm 70))])
 (.seq
 (.region [iV 71 (.ab (tm 1)),
 iV 72 (.ab (tm 17)),
 iV 73 (.bin .quo (tm 71) (tm 72)),
 iV 18 (.ab (tm 73))])
 (.seq
 (.region [iV 74 (.ab (tm 13)),
 iV 75 (.ab (tm 1)),
 iV 76 (.ab (tm 18)),
 iV 77 (.ab (tm 17)),
 iV 78 (.bin .mul (tm 76) (tm 77)),
 iV 79 (.bin .sub (tm 75) (tm 78)),
 iV 80 (.cO (kS [48, 49, 50, 51, 52, 53, 54, 55, 56, 57, 97, 98, 99, 100, 101, 102, 103, 104, 105, 106, 107, 108, 109, 110, 111, 112, 113, 114, 115, 116, 117, 118, 119, 120, 121, 122]) (tm 79)),
 iV 81 (.c7 65 1 (tm 12) (tm 74)),
 iN (.store 1 (tm 81) (tm 80))])
 (.region [iV 82 (.ab (tm 18)),
 iV 1 (.ab (tm 82))]))))))
def bp : ar :=
 ⟨102,
 (.seq
 (.region [iV 10 (.ab (.const .aa)),
 iV 11 (.ab (kS []))])
 (.seq
 (.seq
 (.region [iV 19 (.ab (tm 2)),
 iV 20 (.bin .lss (tm 19) (kI 2)),
 iV 21 (.ab (tm 20)),
 iG 22 (.ab (tm 2)) 21 false,
 iG 23 (.eq false (.ax 1) (tm 22) (kI 10)) 21 false,
 iV 24 (.pick (tm 21) (.const (.bool true)) (tm 23)),
 iV 25 (.ab (tm 24)),
 iG 26 (.ab (tm 2)) 25 false,
 iG 27 (.bin .gtr (tm 26) (kI 36)) 25 false,
 iV 28 (.pick (tm 25) (.const (.bool true)) (tm 27))])
 (.cond (.tmp 28)
 (.region [iV 29 (.iface 9 (kS [115, 116, 114, 99, 111, 110, 118, 58, 32, 105, 108, 108, 101, 103, 97, 108, 32, 65, 112, 112, 101, 110, 100, 73, 110, 116, 47, 70, 111, 114, 109, 97, 116, 73, 110, 116, 32, 98, 97, 115, 101])),
 ⟨none, (.panic (.tmp 29)), none⟩])
 .skip))
 (.seq
 (.region [iV 12 (.alloc 91 [(.int .u8 0), (.int .u8 0), (.int .u8 0), (.int .u8 0), (.int .u8 0), (.int .u8 0), (.int .u8 0), (.int .u8 0), (.int .u8 0), (.int .u8 0), (.int .u8 0), (.int .u8 0), (.int .u8 0), (.int .u8 0), (.int .u8 0), (.int .u8 0), (.int .u8 0), (.int .u8 0), (.int .u8 0), (.int .u8 0), (.int .u8 0), (.int .u8 0), (.int .u8 0), (.int .u8 0), (.int .u8 0), (.int .u8 0), (.int .u8 0), (.int .u8 0), (.int .u8 0), (.int .u8 0), (.int .u8 0), (.int .u8 0), (.int .u8 0), (.int .u8 0), (.int .u8 0), (.int .u8 0), (.int .u8 0), (.int .u8 0), (.int .u8 0), (.int .u8 0), (.int .u8 0), (.int .u8 0), (.int .u8 0), (.int .u8 0), (.int .u8 0), (.int .u8 0), (.int .u8 0), (.int .u8 0), (.int .u8 0), (.int .u8 0), (.int .u8 0), (.int .u8 0), (.int .u8 0), (.int .u8 0), (.int .u8 0), (.int .u8 0), (.int .u8 0), (.int .u8 0), (.int .u8 0), (.int .u8 0), (.int .u8 0), (.int .u8 0), (.int .u8 0), (.int .u8 0), (.int .u8 0)])])
 (.seq
 (.region [iV 13 (.ab (kI 65))])
 (.seq
 (.seq
 (.region [iV 30 (.ab (tm 3))])
 (.cond (.tmp 30)
 (.region [iV 31 (.ab (tm 1)),
 iV 32 (.un .neg (tm 31)),
 iV 1 (.ab (tm 32))])
 .skip))
 (.seq
 (.seq
 (.region [iV 33 (.ab (tm 2)),
 iC 34 73 [(tm 33)]])
 (.cond (.tmp 34)
 (.seq
 (.region [iV 35 (.ab (tm 2)),
 iV 36 (.conv (.int .u64) (tm 35)),
 iC 37 74 [(tm 36)],
 iV 38 (.conv (.int .u64) (tm 37)),
 iV 14 (.ab (tm 38))])
 (.seq
 (.region [iV 39 (.ab (tm 2)),
 iV 40 (.conv (.int .u64) (tm 39)),
 iV 15 (.ab (tm 40))])
 (.seq
 (.region [iV 41 (.ab (tm 2)),
 iV 42 (.conv (.int .u64) (tm 41)),
 iV 43 (.bin .sub (tm 42) (.const (.int .u64 1))),
 iV 16 (.ab (tm 43))])
 (.seq
 (.block 0
 (.loop jh))
 (.seq
 (.region [iV 58 (.ab (tm 13)),
 iV 59 (.bin .sub (tm 58) (kI 1)),
 iV 13 (.ab (tm 59))])
 (.region [iV 60 (.ab (tm 13)),
 iV 61 (.ab (tm 1)),
 iV 62 (.cO (kS [48, 49, 50, 51, 52, 53, 54, 55, 56, 57, 97, 98, 99, 100, 101, 102, 103, 104, 105, 106, 107, 108, 109, 110, 111, 112, 113, 114, 115, 116, 117, 118, 119, 120, 121, 122]) (tm 61)),
 iV 63 (.c7 65 1 (tm 12) (tm 60)),
 iN (.store 1 (tm 63) (tm 62))]))))))
 (.seq
 (.region [iV 64 (.ab (tm 2)),
 iV 65 (.conv (.int .u64) (tm 64)),
 iV 17 (.ab (tm 65))])
 (.seq
 (.block 2
 (.loop jg))
 (.seq
 (.region [iV 83 (.ab (tm 13)),
 iV 84 (.bin .sub (tm 83) (kI 1)),
 iV 13 (.ab (tm 84))])
 (.region [iV 85 (.ab (tm 13)),
 iV 86 (.ab (tm 1)),
 iV 87 (.cO (kS [48, 49, 50, 51, 52, 53, 54, 55, 56, 57, 97, 98, 99, 100, 101, 102, 103, 104, 105, 106, 107, 108, 109, 110, 111, 112, 113, 114, 115, 116, 117, 118, 119, 120, 121, 122]) (tm 86)),
 iV 88 (.c7 65 1 (tm 12) (tm 85)),
 iN (.store 1 (tm 88) (tm 87))]))))))
 (.seq
 (.seq
 (.region [iV 89 (.ab (tm 3))])
 (.cond (.tmp 89)
 (.seq
 (.region [iV 90 (.ab (tm 13)),
 iV 91 (.bin .sub (tm 90) (kI 1)),
 iV 13 (.ab (tm 91))])
 (.region [iV 92 (.ab (tm 13)),
 iV 93 (.c7 65 1 (tm 12) (tm 92)),
 iN (.store 1 (tm 93) (.const (.int .u8 45)))]))
 .skip))
 (.seq
 (.seq
 (.region [iV 94 (.ab (tm 4))])
 (.cond (.tmp 94)
 (.seq
 (.region [iV 95 (.ab (tm 0)),
 iV 96 (.ab (tm 13)),
 iV 97 (.kU 65 1 (tm 12) (some (tm 96)) none none),
 iV 98 (.append 5 1 1 (tm 95) (tm 97)),
 iV 10 (.ab (tm 98))])
 .ret)
 .skip))
 (.seq
 (.region [iV 99 (.ab (tm 13)),
 iV 100 (.kU 65 1 (tm 12) (some (tm 99)) none none),
 iV 101 (.conv .text (tm 100)),
 iV 11 (.ab (tm 101))])
 .ret))))))))),
 [.tmp 10, .tmp 11]⟩
theorem Uu : b7 Tryd.prog G Tryd.f66 = some bp := by kernel_rfl
/- balustrade/balustraderef05.Words -/
abbrev zR : Nat := 69
def iJ : ar :=
 ⟨2,
 (.seq
 (.region [iV 0 (.ab (.const .aa))])
 (.seq
 (.region [iV 1 (.aU 9 1 18 [(.str [])] [(0, (kS [102, 110])), (1, (kS [118, 97, 114])), (2, (kS [105, 102])), (3, (kS [101, 108, 115, 101])), (4, (kS [119, 104, 105, 108, 101])), (5, (kS [102, 111, 114])), (6, (kS [98, 114, 101, 97, 107])), (7, (kS [99, 111, 110, 116, 105, 110, 117, 101])), (8, (kS [114, 101, 116, 117, 114, 110])), (9, (kS [112, 114, 105, 110, 116])), (10, (kS [108, 101, 110])), (11, (kS [110, 101, 119])), (12, (kS [116, 114, 117, 101])), (13, (kS [102, 97, 108, 115, 101])), (14, (kS [110, 105, 108])), (15, (kS [105, 110, 116])), (16, (kS [98, 111, 111, 108])), (17, (kS [97, 114, 114]))]),
 iV 0 (.ab (tm 1))])
 .ret)),
 [.tmp 0]⟩
theorem Ut : b7 Tryd.prog G Tryd.f69 = some iJ := by kernel_rfl
/- internal/strconv.log10Pow2 -/
abbrev sw : Nat := 70
def bA : ar :=
 ⟨6,
 (.seq
 (.region [iV 2 (.ab (kI 0))])
 (.seq
 (.region [iV 3 (.ab (tm 0)),
 iV 4 (.bin .mul (tm 3) (kI 78913)),
 iV 5 (.bin .shr (tm 4) (.const (.int .u64 18))),
 iV 2 (.ab (tm 5))])
 .ret)),
 [.tmp 2]⟩
theorem Us : b7 Tryd.prog G Tryd.f70 = some bA := by kernel_rfl
/- math/bits.Len64 -/
abbrev Eg : Nat := 71
def dx : ar :=
 ⟨25,
 (.seq
 (.region [iV 2 (.ab (kI 0))])
 (.seq
 (.seq
 (.region [iV 3 (.ab (tm 0)),
 iV 4 (.bin .geq (tm 3) (.const (.int .u64 4294967296)))])
 (.cond (.tmp 4)
 (.seq
 (.region [iV 5 (.ab (tm 0)),
 iV 6 (.bin .shr (tm 5) (.const (.int .u64 32))),
 iV 0 (.ab (tm 6))])
 (.region [iV 2 (.ab (kI 32))]))
 .skip))
 (.seq
 (.seq
 (.region [iV 7 (.ab (tm 0)),
 iV 8 (.bin .geq (tm 7) (.const (.int .u64 65536)))])
 (.cond (.tmp 8)
 (.seq
 (.region [iV 9 (.ab (tm 0)),
 iV 10 (.bin .shr (tm 9) (.const (.int .u64 16))),
 iV 0 (.ab (tm 10))])
 (.region [iV 11 (.ab (tm 2)),
 iV 12 (.bin .add (tm 11) (kI 16)),
 iV 2 (.ab (tm 12))]))
 .skip))
 (.seq
 (.seq
 (.region [iV 13 (.ab (tm 0)),
 iV 14 (.bin .geq (tm 13) (.const (.int .u64 256)))])
 (.cond (.tmp 14)
 (.seq
 (.region [iV 15 (.ab (tm 0)),
 iV 16 (.bin .shr (tm 15) (.const (.int .u64 8))),
 iV 0 (.ab (tm 16))])
 (.region [iV 17 (.ab (tm 2)),
 iV 18 (.bin .add (tm 17) (kI 8)),
 iV 2 (.ab (tm 18))]))
 .skip))
 (.seq
 (.region [iV 19 (.ab (tm 2)),
 iV 20 (.ab (tm 0)),
 iV 21 (.conv (.int .u8) (tm 20)),
 iV 22 (.cO (kS [0, 1, 2, 2, 3, 3, 3, 3, 4, 4, 4, 4, 4, 4, 4, 4, 5, 5, 5, 5, 5, 5, 5, 5, 5, 5, 5, 5, 5, 5, 5, 5, 6, 6, 6, 6, 6, 6, 6, 6, 6, 6, 6, 6, 6, 6, 6, 6, 6, 6, 6, 6, 6, 6, 6, 6, 6, 6, 6, 6, 6, 6, 6, 6, 7, 7, 7, 7, 7, 7, 7, 7, 7, 7, 7, 7, 7, 7, 7, 7, 7, 7, 7, 7, 7, 7, 7, 7, 7, 7, 7, 7, 7, 7, 7, 7, 7, 7, 7, 7, 7, 7, 7, 7, 7, 7, 7, 7, 7, 7, 7, 7, 7, 7, 7, 7, 7, 7, 7, 7, 7, 7, 7, 7, 7, 7, 7, 7, 8, 8, 8, 8, 8, 8, 8, 8, 8, 8, 8, 8, 8, 8, 8, 8, 8, 8, 8, 8, 8, 8, 8, 8, 8, 8, 8, 8, 8, 8, 8, 8, 8, 8, 8, 8, 8, 8, 8, 8, 8, 8, 8, 8, 8, 8, 8, 8, 8, 8, 8, 8, 8, 8, 8, 8, 8, 8, 8, 8, 8, 8, 8, 8, 8, 8, 8, 8, 8, 8, 8, 8, 8, 8, 8, 8, 8, 8, 8, 8, 8, 8, 8, 8, 8, 8, 8, 8, 8, 8, 8, 8, 8, 8, 8, 8, 8, 8, 8, 8, 8, 8, 8, 8, 8, 8, 8, 8, 8, 8, 8, 8, 8, 8, 8, 8, 8, 8, 8, 8, 8, 8, 8, 8, 8, 8, 8, 8]) (tm 21)),
 iV 23 (.conv (.int .i64) (tm 22)),
 iV 24 (.bin .add (tm 19) (tm 23)),
 iV 2 (.ab (tm 24))])
 .ret))))),
 [.tmp 2]⟩
theorem Ur : b7 Tryd.prog G Tryd.f71 = some dx := by kernel_rfl
/- internal/strconv.bool2[int] -/
abbrev sx : Nat := 72
def bB : ar :=
 ⟨4,
 (.seq
 (.region [iV 2 (.ab (kI 0))])
 (.seq
 (.seq
 (.region [iV 3 (.ab (tm 0))])
 (.cond (.tmp 3)
 (.seq
 (.region [iV 2 (.ab (kI 1))])
 .ret)
 .skip))
 (.seq
 (.region [iV 2 (.ab (kI 0))])
 .ret))),
 [.tmp 2]⟩
theorem Uq : b7 Tryd.prog G Tryd.f72 = some bB := by kernel_rfl
/- internal/strconv.isPowerOfTwo -/
abbrev qF : Nat := 73
def bc : ar :=
 ⟨8,
 (.seq
 (.region [iV 2 (.ab (.const (.bool false)))])
 (.seq
 (.region [iV 3 (.ab (tm 0)),
 iV 4 (.ab (tm 0)),
 iV 5 (.bin .sub (tm 4) (kI 1)),
 iV 6 (.bin .and (tm 3) (tm 5)),
 iV 7 (.eq false (.ax 1) (tm 6) (kI 0)),
 iV 2 (.ab (tm 7))])
 .ret)),
 [.tmp 2]⟩
theorem Up : b7 Tryd.prog G Tryd.f73 = some bc := by kernel_rfl
/- math/bits.TrailingZeros -/
abbrev vg : Nat := 74
def bQ : ar :=
 ⟨8,
 (.seq
 (.region [iV 2 (.ab (kI 0))])
 (.seq
 (.cond (.const (.bool false))
 (.seq
 (.region [iV 3 (.ab (tm 0)),
 iV 4 (.conv (.int .u32) (tm 3)),
 iC 5 75 [(tm 4)],
 iV 2 (.ab (tm 5))])
 .ret)
 .skip)
 (.seq
 (.region [iV 6 (.ab (tm 0)),
 iC 7 76 [(tm 6)],
 iV 2 (.ab (tm 7))])
 .ret))),
 [.tmp 2]⟩
theorem Uo : b7 Tryd.prog G Tryd.f74 = some bQ := by kernel_rfl
/- math/bits.TrailingZeros32 -/
abbrev sU : Nat := 75
def fR : ar :=
 ⟨14,
 (.seq
 (.region [iV 2 (.ab (kI 0))])
 (.seq
 (.seq
 (.region [iV 3 (.ab (tm 0)),
 iV 4 (.eq false (.ax 1) (tm 3) (.const (.int .u32 0)))])
 (.cond (.tmp 4)
 (.seq
 (.region [iV 2 (.ab (kI 32))])
 .ret)
 .skip))
 (.seq
 (.region [iV 5 (.ab (tm 0)),
 iV 6 (.ab (tm 0)),
 iV 7 (.un .neg (tm 6)),
 iV 8 (.bin .and (tm 5) (tm 7)),
 iV 9 (.bin .mul (tm 8) (.const (.int .u32 125613361))),
 iV 10 (.bin .shr (tm 9) (.const (.int .u64 27))),
 iV 11 (.c7 32 1 (.const (.ptr 4 0)) (tm 10)),
 iV 12 (.load none (tm 11)),
 iV 13 (.conv (.int .i64) (tm 12)),
 iV 2 (.ab (tm 13))])
 .ret))),
 [.tmp 2]⟩
theorem Un : b7 Tryd.prog G Tryd.f75 = some fR := by kernel_rfl
/- math/bits.TrailingZeros64 -/
abbrev sT : Nat := 76
def fQ : ar :=
 ⟨14,
 (.seq
 (.region [iV 2 (.ab (kI 0))])
 (.seq
 (.seq
 (.region [iV 3 (.ab (tm 0)),
 iV 4 (.eq false (.ax 1) (tm 3) (.const (.int .u64 0)))])
 (.cond (.tmp 4)
 (.seq
 (.region [iV 2 (.ab (kI 64))])
 .ret)
 .skip))
 (.seq
 (.region [iV 5 (.ab (tm 0)),
 iV 6 (.ab (tm 0)),
 iV 7 (.un .neg (tm 6)),
 iV 8 (.bin .and (tm 5) (tm 7)),
 iV 9 (.bin .mul (tm 8) (.const (.int .u64 285870213051353865))),
 iV 10 (.bin .shr (tm 9) (.const (.int .u64 58))),
 iV 11 (.c7 64 1 (.const (.ptr 5 0)) (tm 10)),
 iV 12 (.load none (tm 11)),
 iV 13 (.conv (.int .i64) (tm 12)),
 iV 2 (.ab (tm 13))])
 .ret))),
 [.tmp 2]⟩
theorem Um : b7 Tryd.prog G Tryd.f76 = some fQ := by kernel_rfl
end
section
open Go Go.RowKit
theorem Gv {P : Program} {G : List Nat} (eT : P.follows .mixedOrders = true) {T : Nat -> Option fg} (hT : ∀ f e, T f = some e -> xq P G f e) {k f : Nat} {F : ar} (hf : T f = some (.go F))
  {args : List EV} {m m' : Mem} {b : Bool} (h : aC T k f args m = some (.ret (.bool b) m')) {ρ : Ren} {w : World} {aj : Array Value} (hR : R w.heap.size ρ m w) (hG : fJ G ρ)
  (lQ : ∀ b L, ρ b = some L -> Live m b -> L.ro = true) (hv : cS ρ args aj.toList) : Calls P f aj w fun e w' => e = .returned (.bool b) /\ Below w.heap.size w w' := by
 cases k with
 | zero => simp [aC] at h
 | succ k =>
  simp only [aC, hf, fc] at h;obtain ⟨fn, h1, h2⟩ := hT f _ hf
  obtain ⟨_, hc⟩ := uU eT (uH eT hT k) k h1 h2 h hR hG hv
  refine hc.mono fun e w' hp => ?_
  obtain ⟨ρ', v', rfl, qb, _, hs⟩ := hp
  cases qb
  refine ⟨rfl, hs.os, hs.tape, hs.output, hs.size, fun i hi => hs.kept i hi ?_⟩
  rintro ⟨b, L, h1, h2, h3, _⟩
  rw [lQ b L h1 h2] at h3
  cases h3
def Y0 (n : Nat) : Ren := fun b => if b < n then some ⟨b, 0, (match tabl b with | some l => l.length | none => 0), 1, true⟩ else none
def RE (n : Nat) : Mem := ⟨n, .leaf⟩
theorem Jc (n b : Nat) : (RE n).get b = .dead := by unfold Mem.get RE; simp only [Tr.ql]; rfl
def kh (c c' : Call) : Prop := ∀ f a m r, c f a m = some r -> c' f a m = some r
theorem oj {c c' : Call} (h : kh c c') {f : EV} {a : List EV} {m : Mem} {r : Fin} (e : dy c f a m = some r) : dy c' f a m = some r := by
 cases f <;> simp only [dy, reduceCtorEq] at e ⊢
 exact h _ _ _ _ e
theorem ld {c c' : Call} (h : kh c c') : ∀ (ops : List aF) (fr : Fr) (m : Mem) (r : Out), et c ops fr m = some r -> et c' ops fr m = some r
 | [], fr, m, r, e => e
 | o :: ops, fr, m, r, e => by
  simp only [et] at e ⊢
  cases hw : aG fr o.guard with
  | none => simp [hw] at e
  | some b =>
  cases b with
  | false => simp only [hw] at e ⊢; exact ld h ops _ _ _ e
  | true =>
   simp only [hw] at e ⊢
   cases ho : o.op with
   | val op =>
    simp only [ho] at e ⊢
    cases hv : ap fr.eval op m with
    | none => simp [hv] at e
    | some q => obtain ⟨v, m1⟩ := q; simp only [hv] at e ⊢; exact ld h ops _ _ _ e
   | call f args =>
    simp only [ho] at e ⊢
    cases hv : dy c (fr.eval f) (args.map fr.eval) m with
    | none => simp [hv] at e
    | some q =>
     rw [oj h hv]
     cases q with
     | ret v m1 => simp only [hv] at e ⊢; exact ld h ops _ _ _ e
     | dZ v m1 => simp only [hv] at e ⊢; exact e
   | panic x => simp only [ho] at e ⊢; exact e
   | defer f args =>
    simp only [ho] at e ⊢
    split at e
    ·exact ld h ops _ _ _ e
    ·cases e
theorem fM {c c' : Call} (h : kh c c') {chk : List (Nat × Nat)} {B0 : Nat} : ∀ (ops : List aF) (i : Nat) (fr : Fr) (m : Mem) (sn : List (Nat × Mem)) (se : List Seen) (r : Out), b6 c chk B0 ops i fr m sn se = some r -> b6 c' chk B0 ops i fr m sn se = some r
 | [], i, fr, m, sn, se, r, e => e
 | o :: ops, i, fr, m, sn, se, r, e => by
  simp only [b6] at e ⊢
  cases hw : aG fr o.guard with
  | none => simp [hw] at e
  | some b =>
  cases b with
  | false => simp only [hw] at e ⊢; exact fM h ops _ _ _ _ _ _ e
  | true =>
   simp only [hw] at e ⊢
   cases ho : o.op with
   | panic x => simp [ho] at e
   | defer f x => simp [ho] at e
   | call f args =>
    simp only [ho] at e ⊢
    cases hv : dy c (fr.eval f) (args.map fr.eval) m with
    | none => simp [hv] at e
    | some q =>
     rw [oj h hv]
     cases q with
     | dZ v m1 => simp [hv] at e
     | ret v m1 =>
      simp only [hv] at e ⊢
      cases hk : aE chk i m1 se <;> simp only [hk, cond_true, cond_false, reduceCtorEq] at e ⊢
      exact fM h ops _ _ _ _ _ _ e
   | val op =>
    simp only [ho] at e ⊢
    split at e
    ·cases hv : ap fr.eval op m with
     | none => simp [hv] at e
     | some q => obtain ⟨v, m1⟩ := q; simp only [hv] at e ⊢; exact fM h ops _ _ _ _ _ _ e
    ·cases hv : ap fr.eval op ⟨B0 + i, m.kl⟩ with
     | none => simp [hv] at e
     | some q => obtain ⟨v, m1⟩ := q; simp only [hv] at e ⊢; exact fM h ops _ _ _ _ _ _ e
    ·split at e
     ·rename_i agg x _
      cases hl : m.load agg (fr.eval x) with
      | none => simp [hl] at e
      | some v =>
       simp only [hl] at e ⊢
       cases hf : wK (fr.eval x) <;> simp only [hf, cond_true, cond_false] at e ⊢
       ·cases hk : aT chk i agg (fr.eval x) v sn <;> simp only [hk, cond_true, cond_false, reduceCtorEq] at e ⊢
        exact fM h ops _ _ _ _ _ _ e
       ·cases hk : cb chk i m.next sn <;> simp only [hk, cond_true, cond_false, reduceCtorEq] at e ⊢
        exact fM h ops _ _ _ _ _ _ e
     ·cases e
    ·rename_i h0 h1 h2
     cases hv : ap fr.eval op m with
     | none => simp [hv] at e
     | some q =>
      obtain ⟨v, m1⟩ := q
      simp only [hv] at e ⊢
      cases hk : aE chk i m1 se <;> simp only [hk, cond_true, cond_false, reduceCtorEq] at e ⊢
      exact fM h ops _ _ _ _ _ _ e
theorem p9 {b b' : Fr -> Mem -> Option Out} (h : ∀ fr m r, b fr m = some r -> b' fr m = some r) : ∀ (n n' : Nat), n <= n' -> ∀ (fr : Fr) (m : Mem) (r : Out), iter b n fr m = some r -> iter b' n' fr m = some r
 | 0, n', _, fr, m, r, e => by simp [iter] at e
 | n + 1, 0, hn, fr, m, r, e => by omega
 | n + 1, n' + 1, hn, fr, m, r, e => by
  simp only [iter] at e ⊢
  cases hb : b fr m with
  | none => simp [hb] at e
  | some o =>
   rw [h _ _ _ hb];simp only [hb] at e
   cases o with
   | norm dB m1 => exact p9 h n n' (by omega) dB m1 r e
   | exit id dB m1 => exact e
   | ret dB m1 => exact e
   | dZ v dB m1 => exact e
theorem cQ {c c' : Call} (h : kh c c') {n n' : Nat} (hn : n <= n') : ∀ (x : au) (fr : Fr) (m : Mem) (r : Out), ah c n x fr m = some r -> ah c' n' x fr m = some r
 | .skip, fr, m, r, e => e
 | .ret, fr, m, r, e => e
 | .exit id, fr, m, r, e => e
 | .region ops, fr, m, r, e => by simp only [ah] at e ⊢; exact ld h _ _ _ _ e
 | .draw ops chk, fr, m, r, e => by simp only [ah] at e ⊢; exact fM h _ _ _ _ _ _ _ e
 | .seq a b, fr, m, r, e => by
  simp only [ah] at e ⊢
  cases ha : ah c n a fr m with
  | none => simp [ha] at e
  | some o =>
   rw [cQ h hn a _ _ _ ha];simp only [ha] at e
   cases o with
   | norm dB m1 => exact cQ h hn b _ _ _ e
   | exit id dB m1 => exact e
   | ret dB m1 => exact e
   | dZ v dB m1 => exact e
 | .cond x a b, fr, m, r, e => by
  simp only [ah] at e ⊢
  split at e
  ·rename_i t _
   cases t <;> simp only [cond_true, cond_false] at e ⊢
   ·exact cQ h hn b _ _ _ e
   ·exact cQ h hn a _ _ _ e
  ·cases e
 | .block id a, fr, m, r, e => by
  simp only [ah] at e ⊢
  cases ha : ah c n a fr m with
  | none => simp [ha] at e
  | some o =>
   rw [cQ h hn a _ _ _ ha];simp only [ha] at e;exact e
 | .loop a, fr, m, r, e => by
  simp only [ah] at e ⊢
  exact p9 (fun fr m r => cQ h hn a fr m r) n n' hn fr m r e
theorem kL {c c' : Call} (h : kh c c') {n n' : Nat} (hn : n <= n') {F : ar} {args : List EV} {m : Mem} {r : Fin} (e : cf c n F args m = some r) : cf c' n' F args m = some r := by
 unfold cf at e ⊢
 cases hl : args.length.ble F.ntmps <;> simp only [hl, cond_true, cond_false, reduceCtorEq] at e ⊢
 cases hc : ah c n F.body ⟨bO args 0 .leaf, []⟩ m with
 | none => simp [hc] at e
 | some o =>
  rw [cQ h hn _ _ _ _ hc];simp only [hc] at e;exact e
theorem pp {c c' : Call} (h : kh c c') {n n' : Nat} (hn : n <= n') {d : Nat} {F : ar} {args : List EV} {u : Option EV} {m m' : Mem} (e : dj c n d F args u m = some m') : dj c' n' d F args u m = some m' := by
 unfold dj at e ⊢
 cases hl : args.length.ble F.ntmps <;> simp only [hl, cond_true, cond_false, reduceCtorEq] at e ⊢
 cases hc : ah c n F.body (Fr.set ⟨bO args 0 .leaf, []⟩ d (u.getD .aq)) m with
 | none => simp [hc] at e
 | some o =>
  rw [cQ h hn _ _ _ _ hc];simp only [hc] at e;exact e
theorem eI {c c' : Call} (h : kh c c') {n n' : Nat} (hn : n <= n') {rs : List jd} {D : List (Nat × Option Nat × ar)} {fr : Fr} : ∀ (ds : List (Nat × List EV)) (u : Option EV) (m : Mem) (r : Fin), bK c n rs D fr ds u m = some r -> bK c' n' rs D fr ds u m = some r
 | [], none, m, r, e => e
 | [], some v, m, r, e => e
 | (g, args) :: ds, u, m, r, e => by
  simp only [bK] at e ⊢
  cases hd : jq g D with
  | none => simp [hd] at e
  | some q =>
   obtain ⟨b, F⟩ := q
   cases b with
   | some d =>
    simp only [hd] at e ⊢
    cases hb : dj c n d F args u m with
    | none => simp [hb] at e
    | some m1 =>
     rw [pp h hn hb];simp only [hb] at e;exact eI h hn ds none m1 r e
   | none =>
    simp only [hd] at e ⊢
    cases hb : cf c n F args m with
    | none => simp [hb] at e
    | some fin =>
     rw [kL h hn hb];simp only [hb] at e
     cases fin with
     | ret v m1 => exact eI h hn ds u m1 r e
     | dZ v m1 =>
      cases u with
      | none => exact eI h hn ds (some v) m1 r e
      | some x => cases e
theorem uJ {c c' : Call} (h : kh c c') {n n' : Nat} (hn : n <= n') {F : ar} {D : List (Nat × Option Nat × ar)} {args : List EV} {m : Mem} {r : Fin} (e : fC c n F D args m = some r) : fC c' n' F D args m = some r := by
 unfold fC at e ⊢
 cases hl : args.length.ble F.ntmps <;> simp only [hl, cond_true, cond_false, reduceCtorEq] at e ⊢
 cases hc : ah c n F.body ⟨bO args 0 .leaf, []⟩ m with
 | none => simp [hc] at e
 | some o =>
  rw [cQ h hn _ _ _ _ hc];simp only [hc] at e
  cases o with
  | norm fr m => exact eI h hn _ _ _ _ e
  | ret fr m => exact eI h hn _ _ _ _ e
  | dZ v fr m => exact eI h hn _ _ _ _ e
  | exit id fr m => exact e
theorem gT (T : Nat -> Option fg) : ∀ (k k' : Nat), k <= k' -> kh (aC T k) (aC T k')
 | 0, k', _ => fun f a m r e => by simp [aC] at e
 | k + 1, 0, h => by omega
 | k + 1, k' + 1, h => fun f a m r e => by
  simp only [aC] at e ⊢
  cases hT : T f with
  | none => simp [hT] at e
  | some x =>
   simp only [hT] at e ⊢
   cases x with
   | go F => simp only [fc] at e ⊢; exact kL (gT T k k' (by omega)) (by omega) e
   | ext g => exact e
   | pure g => exact e
   | spec g => exact e
   | EK F D => simp only [fc] at e ⊢; exact uJ (gT T k k' (by omega)) (by omega) e
mutual
def Flat : EV -> Bool
 | .ptr _ _ | .slice _ _ _ _ | .map _ | .fz _ _ _ | .dl _ _ _ _ => false
 | .func _ x y => c9 x && c9 y
 | .iface _ v => Flat v
 | .agg x | .tuple x => c9 x
 | _ => true
def c9 : List EV -> Bool
 | [] => true
 | v :: x => Flat v && c9 x
end
mutual
theorem VR.flat {ρ ρ' : Ren} : ∀ {v : EV} {v' : Value}, VR ρ v v' -> Flat v = true -> VR ρ' v v'
 | _, _, .undef, _ => .undef
 | _, _, .bool b, _ => .bool b
 | _, _, .int k n, _ => .int k n
 | _, _, .str s, _ => .str s
 | _, _, .bb, _ => .bb
 | _, _, .ptr _, h => by simp [Flat] at h
 | _, _, .aa, _ => .aa
 | _, _, .slice _ _ _ _, h => by simp [Flat] at h
 | _, _, .cT _ _ _, h => by simp [Flat] at h
 | _, _, .dD, h => by simp [Flat] at h
 | _, _, .aS, _ => .aS
 | _, _, .map _, h => by simp [Flat] at h
 | _, _, .aR, _ => .aR
 | _, _, .func hx hy, h => by simp only [Flat, kD] at h; exact .func (cS.flat hx h.1) (cS.flat hy h.2)
 | _, _, .aq, _ => .aq
 | _, _, .iface hv, h => .iface (VR.flat hv (by simpa only [Flat] using h))
 | _, _, .agg hx hf, h => .agg (cS.flat hx (by simpa only [Flat] using h)) hf
 | _, _, .tuple hx, h => .tuple (cS.flat hx (by simpa only [Flat] using h))
theorem cS.flat {ρ ρ' : Ren} : ∀ {x : List EV} {x' : List Value}, cS ρ x x' -> c9 x = true -> cS ρ' x x'
 | _, _, .nil, _ => .nil
 | _, _, .cons hv hs, h => by simp only [c9, kD] at h; exact .cons (VR.flat hv h.1) (cS.flat hs h.2)
end
theorem VR.LN {ρ ρ' : Ren} {s : List UInt8} {v' : Value} (h : VR ρ' (.str s) v') : VR ρ (.str s) v' := by
 generalize hx : EV.str s = x at h
 cases h <;> cases hx
 exact .str _
theorem VR.IY {ρ ρ' : Ren} {b off : Nat} {v' : Value} (h : VR ρ' (.slice b off 0 (some 0)) v') : VR ρ (.slice b off 0 (some 0)) v' := by
 cases h with
 | dD => exact .dD
 | cT h' hc ho => exact .dD
mutual
theorem VR.back {ρ ρ' : Ren} (e : Ext ρ ρ') : ∀ {v : EV} {u v' : Value}, VR ρ v u -> VR ρ' v v' -> VR ρ v v'
 | _, _, _, .undef, h => by cases h; exact .undef
 | _, _, _, .bool _, h => by cases h; exact .bool _
 | _, _, _, .int _ _, h => by cases h; exact .int _ _
 | _, _, _, .str _, h => h.LN
 | _, _, _, .bb, h => by cases h; exact .bb
 | _, _, _, .ptr h, h2 => by cases h2 with | ptr h' => have := e _ _ h; rw [h'] at this; cases this; exact .ptr h
 | _, _, _, .aa, h => by cases h; exact .aa
 | _, _, _, .slice h _ _ _, h2 => by cases h2 with | slice h' hc ho hr => have := e _ _ h; rw [h'] at this; cases this; exact .slice h hc ho hr
 | _, _, _, .cT h _ _, h2 => by
  cases h2 with
  | cT h' hc ho => have := e _ _ h; rw [h'] at this; cases this; exact .cT h hc ho
  | dD => exact .dD
 | _, _, _, .dD, h2 => h2.IY
 | _, _, _, .aS, h => by cases h; exact .aS
 | _, _, _, .map h, h2 => by cases h2 with | map h' => have := e _ _ h; rw [h'] at this; cases this; exact .map h
 | _, _, _, .aR, h => by cases h; exact .aR
 | _, _, _, .func hx hy, h2 => by cases h2 with | func HE Tz => exact .func (cS.back e hx HE) (cS.back e hy Tz)
 | _, _, _, .aq, h => by cases h; exact .aq
 | _, _, _, .iface h, h2 => by cases h2 with | iface h' => exact .iface (VR.back e h h')
 | _, _, _, .agg h _, h2 => by cases h2 with | agg h' hf => exact .agg (cS.back e h h') hf
 | _, _, _, .tuple h, h2 => by cases h2 with | tuple h' => exact .tuple (cS.back e h h')
theorem cS.back {ρ ρ' : Ren} (e : Ext ρ ρ') : ∀ {x : List EV} {u v : List Value}, cS ρ x u -> cS ρ' x v -> cS ρ x v
 | _, _, _, .nil, h => by cases h; exact .nil
 | _, _, _, .cons h hs, h2 => by cases h2 with | cons h' x6 => exact .cons (VR.back e h h') (cS.back e hs x6)
end
def XP (g : List EV -> Mem -> Option EV) : List EV -> Mem -> Option Fin := fun args m => (g args m).map fun v => .ret v m
def up (T : Nat -> Option fg) (f : Nat) (e : fg) : Nat -> Option fg := fun g => bif g.beq f then some e else T g
end
section
open Classical in
noncomputable def Li {α : Type} (g : Nat -> Option α) : Option α := if h : ∃ r, ∃ k, g k = some r then some (Classical.choose h) else none
def u7 {α : Type} (g : Nat -> Option α) : Prop := ∀ k k' r, k <= k' -> g k = some r -> g k' = some r
theorem u7.LA {α : Type} {g : Nat -> Option α} (h : u7 g) {k k' : Nat} {r r' : α} (e : g k = some r) (e' : g k' = some r') : r = r' := by
 have h1 := h k (max k k') r (Nat.le_max_left _ _) e
 have h2 := h k' (max k k') r' (Nat.le_max_right _ _) e'
 rw [h1] at h2; cases h2; rfl
theorem lF {α : Type} {g : Nat -> Option α} (h : u7 g) {r : α} : Li g = some r ↔ ∃ k, g k = some r := by
 unfold Li
 constructor
 ·intro e
  split at e
  ·rename_i hx
   cases e
   exact Classical.choose_spec hx
  ·cases e
 ·rintro ⟨k, hk⟩
  have hx : ∃ r, ∃ k, g k = some r := ⟨r, k, hk⟩
  rw [dif_pos hx];obtain ⟨k', Bq⟩ := Classical.choose_spec hx
  rw [h.LA hk Bq]
theorem bV {α : Type} {a b : Option α} (h : ∀ r, a = some r ↔ b = some r) : a = b := by
 cases b with
 | some y => exact (h y).2 rfl
 | none =>
  cases a with
  | none => rfl
  | some x => exact absurd ((h x).1 rfl) (by simp)
section
variable (T : Nat -> Option fg)
noncomputable def run (f : Nat) (args : List EV) (m : Mem) : Option Fin := Li fun k => aC T k f args m
noncomputable def exec (c : au) (fr : Fr) (m : Mem) : Option Out := Li fun k => ah (aC T k) k c fr m
noncomputable def kq (l : List aF) (fr : Fr) (m : Mem) : Option Out := Li fun k => et (aC T k) l fr m
noncomputable def ib (chk : List (Nat × Nat)) (B0 : Nat) (l : List aF) (i : Nat) (fr : Fr) (m : Mem) (sn : List (Nat × Mem)) (se : List Seen) : Option Out := Li fun k => b6 (aC T k) chk B0 l i fr m sn se
end
section
variable {T : Nat -> Option fg}
theorem tW {f : Nat} {args : List EV} {m : Mem} : u7 fun k => aC T k f args m := fun k k' _ h e => gT T k k' h _ _ _ _ e
theorem fL {c : au} {fr : Fr} {m : Mem} : u7 fun k => ah (aC T k) k c fr m := fun k k' _ h e => cQ (gT T k k' h) h _ _ _ _ e
theorem wD {l : List aF} {fr : Fr} {m : Mem} : u7 fun k => et (aC T k) l fr m := fun k k' _ h e => ld (gT T k k' h) _ _ _ _ e
theorem zU {chk : List (Nat × Nat)} {B0 : Nat} {l : List aF} {i : Nat} {fr : Fr} {m : Mem} {sn : List (Nat × Mem)} {se : List Seen} : u7 fun k => b6 (aC T k) chk B0 l i fr m sn se := fun k k' _ h e => fM (gT T k k' h) _ _ _ _ _ _ _ e
theorem jF {f : Nat} {args : List EV} {m : Mem} {r : Fin} : run T f args m = some r ↔ ∃ k, aC T k f args m = some r := lF tW
theorem bn {c : au} {fr : Fr} {m : Mem} {r : Out} : exec T c fr m = some r ↔ ∃ k, ah (aC T k) k c fr m = some r := lF fL
theorem dP {l : List aF} {fr : Fr} {m : Mem} {r : Out} : kq T l fr m = some r ↔ ∃ k, et (aC T k) l fr m = some r := lF wD
theorem dG {chk : List (Nat × Nat)} {B0 : Nat} {l : List aF} {i : Nat} {fr : Fr} {m : Mem} {sn : List (Nat × Mem)} {se : List Seen} {r : Out} : ib T chk B0 l i fr m sn se = some r ↔ ∃ k, b6 (aC T k) chk B0 l i fr m sn se = some r := lF zU
theorem wZ {fr : Fr} {m : Mem} : exec T .skip fr m = some (.norm fr m) := bn.2 ⟨0, rfl⟩
theorem Aw {fr : Fr} {m : Mem} : exec T .ret fr m = some (.ret fr m) := bn.2 ⟨0, rfl⟩
theorem w7 {id : Nat} {fr : Fr} {m : Mem} : exec T (.exit id) fr m = some (.exit id fr m) := bn.2 ⟨0, rfl⟩
theorem sa {l : List aF} {fr : Fr} {m : Mem} : exec T (.region l) fr m = kq T l fr m := rfl
theorem GY {l : List aF} {chk : List (Nat × Nat)} {fr : Fr} {m : Mem} : exec T (.draw l chk) fr m = ib T chk m.next l 0 fr ⟨m.next + l.length, m.kl⟩ [] [] := rfl
def ik (o : Option Out) (k : Fr -> Mem -> Option Out) : Option Out := match o with
 | some (.norm fr m) => k fr m
 | o => o
theorem nO {a b : au} {fr : Fr} {m : Mem} : exec T (.seq a b) fr m = ik (exec T a fr m) (exec T b) := by
 refine bV fun r => ?_
 rw [bn]
 constructor
 ·rintro ⟨k, h⟩
  simp only [ah] at h
  cases ha : ah (aC T k) k a fr m with
  | none => simp [ha] at h
  | some o =>
   rw [bn.2 ⟨k, ha⟩];simp only [ha] at h
   cases o with
   | norm dB m1 => exact bn.2 ⟨k, h⟩
   | exit id dB m1 => exact h
   | ret dB m1 => exact h
   | dZ v dB m1 => exact h
 ·intro h
  cases ha : exec T a fr m with
  | none => simp [ha, ik] at h
  | some o =>
   obtain ⟨k1, h1⟩ := bn.1 ha
   simp only [ha, ik] at h
   cases o with
   | norm dB m1 =>
    obtain ⟨k2, h2⟩ := bn.1 h
    refine ⟨max k1 k2, ?_⟩
    simp only [ah];have e1 := fL _ _ _ (Nat.le_max_left k1 k2) h1
    have e2 := fL _ _ _ (Nat.le_max_right k1 k2) h2
    simp only at e1 e2
    rw [e1]; exact e2
   | exit id dB m1 => refine ⟨k1, ?_⟩; simp only [ah, h1]; exact h
   | ret dB m1 => refine ⟨k1, ?_⟩; simp only [ah, h1]; exact h
   | dZ v dB m1 => refine ⟨k1, ?_⟩; simp only [ah, h1]; exact h
theorem w9 {c : aD} {a b : au} {fr : Fr} {m : Mem} {t : Bool} (h : fr.eval c = .bool t) : exec T (.cond c a b) fr m = bif t then exec T a fr m else exec T b fr m := by
 refine bV fun r => ?_
 rw [bn];simp only [ah, h]
 cases t
 ·simp only [cond_false]; exact bn.symm
 ·simp only [cond_true]; exact bn.symm
def lb (id : Nat) (o : Option Out) : Option Out := match o with
 | some (.exit j fr m) => bif j.beq id then some (.norm fr m) else some (.exit j fr m)
 | o => o
theorem uE {id : Nat} {a : au} {fr : Fr} {m : Mem} : exec T (.block id a) fr m = lb id (exec T a fr m) := by
 refine bV fun r => ?_
 rw [bn]
 constructor
 ·rintro ⟨k, h⟩
  simp only [ah] at h
  cases ha : ah (aC T k) k a fr m with
  | none => simp [ha] at h
  | some o => rw [bn.2 ⟨k, ha⟩]; rw [ha] at h; exact h
 ·intro h
  cases ha : exec T a fr m with
  | none => simp [ha, lb] at h
  | some o =>
   obtain ⟨k1, h1⟩ := bn.1 ha
   rw [ha] at h;refine ⟨k1, ?_⟩; simp only [ah, h1]; exact h
theorem w6 {a : au} {fr : Fr} {m : Mem} : exec T (.loop a) fr m = ik (exec T a fr m) (exec T (.loop a)) := by
 refine bV fun r => ?_
 rw [bn]
 constructor
 ·rintro ⟨k, h⟩
  simp only [ah] at h
  cases k with
  | zero => simp [iter] at h
  | succ k =>
   have h' : (match ah (aC T (k + 1)) (k + 1) a fr m with | some (.norm fr m) => iter (ah (aC T (k + 1)) (k + 1) a) k fr m | o => o) = some r := by
    rw [<- h]; rfl
   cases ha : ah (aC T (k + 1)) (k + 1) a fr m with
   | none => simp [ha] at h'
   | some o =>
    rw [bn.2 ⟨k + 1, ha⟩];simp only [ha] at h'
    cases o with
    | norm dB m1 =>
     refine bn.2 ⟨k + 1, ?_⟩
     simp only [ah];exact p9 (fun fr m r e => e) k (k + 1) (by omega) _ _ _ h'
    | exit id dB m1 => exact h'
    | ret dB m1 => exact h'
    | dZ v dB m1 => exact h'
 ·intro h
  cases ha : exec T a fr m with
  | none => simp [ha, ik] at h
  | some o =>
   obtain ⟨k1, h1⟩ := bn.1 ha
   simp only [ha, ik] at h;have key : ∀ k2, (∀ r1, iter (ah (aC T k2) k2 a) k2 fr m = some r1 -> True) -> True := fun _ _ => trivial
   cases o with
   | norm dB m1 =>
    obtain ⟨k2, h2⟩ := bn.1 h
    simp only [ah] at h2;refine ⟨max k1 k2 + 1, ?_⟩
    have e1 := fL _ _ _ (show k1 <= max k1 k2 + 1 by omega) h1
    simp only at e1
    simp only [ah, iter, e1];exact p9 (fun fr m r e => cQ (gT T k2 (max k1 k2 + 1) (by omega)) (by omega) a fr m r e) k2 (max k1 k2) (by omega) _ _ _ h2
   | exit id dB m1 =>
    refine ⟨k1 + 1, ?_⟩
    have e1 := fL _ _ _ (show k1 <= k1 + 1 by omega) h1
    simp only at e1
    simp only [ah, iter, e1]; exact h
   | ret dB m1 =>
    refine ⟨k1 + 1, ?_⟩
    have e1 := fL _ _ _ (show k1 <= k1 + 1 by omega) h1
    simp only at e1
    simp only [ah, iter, e1]; exact h
   | dZ v dB m1 =>
    refine ⟨k1 + 1, ?_⟩
    have e1 := fL _ _ _ (show k1 <= k1 + 1 by omega) h1
    simp only at e1
    simp only [ah, iter, e1]; exact h
theorem zE {fr : Fr} {m : Mem} : kq T [] fr m = some (.norm fr m) := dP.2 ⟨0, rfl⟩
def dY (o : Option R1) (k : EV -> Mem -> Option Out) : Option Out := match o with
 | some (.val v m) => k v m
 | none => none
def lu (o : Option Fin) (fr : Fr) (k : EV -> Mem -> Option Out) : Option Out := match o with
 | some (.ret v m) => k v m
 | some (.dZ v m) => some (.dZ v fr m)
 | none => none
theorem tM {d : Option Nat} {op : iR} {l : List aF} {fr : Fr} {m : Mem} : kq T (⟨d, .val op, none⟩ :: l) fr m = dY (ap fr.eval op m) fun v m => kq T l (fr.put d v) m := by
 refine bV fun r => ?_
 rw [dP];simp only [et, aG]
 cases h : ap fr.eval op m with
 | none => simp [dY]
 | some q => obtain ⟨v, m1⟩ := q; simp only [dY]; exact dP.symm
theorem Ch {d : Option Nat} {op : qH} {t : Nat} {w : Bool} {l : List aF} {fr : Fr} {m : Mem} {b : Bool} (h : fr.get t = .bool b) :
  kq T (⟨d, op, some (t, w)⟩ :: l) fr m = bif b == w then kq T (⟨d, op, none⟩ :: l) fr m else kq T l (fr.put d .undef) m := by
 refine bV fun r => ?_
 rw [dP];simp only [et, aG, h]
 cases hb : b == w
 ·simp only [cond_false]; exact dP.symm
 ·simp only [cond_true]
  rw [dP];simp only [et, aG]
theorem Cg {d : Option Nat} {x : aD} {l : List aF} {fr : Fr} {m : Mem} {t : Nat} {v : EV} (h : fr.eval x = .iface t v) : kq T (⟨d, .panic x, none⟩ :: l) fr m = some (.dZ (.iface t v) fr m) := by
 refine dP.2 ⟨0, ?_⟩
 simp only [et, aG, h]
def nu (F : ar) (o : Option Out) : Option Fin := match o with
 | some (.norm fr m) | some (.ret fr m) => match fr.defers with
  | [] => (aX fr m F.results).map fun vs => .ret (one vs) m
  | _ => none
 | some (.dZ v fr m) => match fr.defers with
  | [] => some (.dZ v m)
  | _ => none
 | _ => none
theorem Ix {f : Nat} {F : ar} (hf : T f = some (.go F)) {args : List EV} {m : Mem} (hn : args.length <= F.ntmps) : run T f args m = nu F (exec T F.body ⟨bO args 0 .leaf, []⟩ m) := by
 have hb : args.length.ble F.ntmps = true := lJ hn
 refine bV fun r => ?_
 rw [jF]
 constructor
 ·rintro ⟨k, h⟩
  cases k with
  | zero => simp [aC] at h
  | succ k =>
   simp only [aC, hf, fc, cf, hb, cond_true] at h
   cases hc : ah (aC T k) k F.body ⟨bO args 0 .leaf, []⟩ m with
   | none => simp [hc] at h
   | some o =>
    rw [bn.2 ⟨k, hc⟩];simp only [hc] at h
    cases o <;> exact h
 ·intro h
  cases hc : exec T F.body ⟨bO args 0 .leaf, []⟩ m with
  | none => simp [hc, nu] at h
  | some o =>
   obtain ⟨k, hk⟩ := bn.1 hc
   rw [hc] at h;refine ⟨k + 1, ?_⟩
   simp only [aC, hf, fc, cf, hb, cond_true, hk]
   cases o <;> exact h
theorem lZ {f : Nat} {g : List EV -> Mem -> Option Fin} (hf : T f = some (.spec g)) {args : List EV} {m : Mem} : run T f args m = g args m := by
 refine bV fun r => ?_
 rw [jF]
 constructor
 ·rintro ⟨k, h⟩
  cases k with
  | zero => simp [aC] at h
  | succ k => simpa only [aC, hf, fc] using h
 ·intro h; exact ⟨1, by simpa only [aC, hf, fc] using h⟩
theorem run_pure {f : Nat} {g : List EV -> Option EV} (hf : T f = some (.pure g)) {args : List EV} {m : Mem} : run T f args m = (g args).map fun v => .ret v m := by
 refine bV fun r => ?_
 rw [jF]
 constructor
 ·rintro ⟨k, h⟩
  cases k with
  | zero => simp [aC] at h
  | succ k => simpa only [aC, hf, fc] using h
 ·intro h; exact ⟨1, by simpa only [aC, hf, fc] using h⟩
section
variable (T)
noncomputable def Ba (F : ar) (args : List EV) (m : Mem) : Option Fin := Li fun k => cf (aC T k) k F args m
noncomputable def yG (d : Nat) (F : ar) (args : List EV) (u : Option EV) (m : Mem) : Option Mem := Li fun k => dj (aC T k) k d F args u m
noncomputable def jA (rs : List jd) (D : List (Nat × Option Nat × ar)) (fr : Fr) (ds : List (Nat × List EV)) (u : Option EV) (m : Mem) : Option Fin := Li fun k => bK (aC T k) k rs D fr ds u m
end
theorem o7 {F : ar} {args : List EV} {m : Mem} : u7 fun k => cf (aC T k) k F args m := fun k k' _ h e => kL (gT T k k' h) h e
theorem rT {d : Nat} {F : ar} {args : List EV} {u : Option EV} {m : Mem} : u7 fun k => dj (aC T k) k d F args u m := fun k k' _ h e => pp (gT T k k' h) h e
theorem lD {rs : List jd} {D : List (Nat × Option Nat × ar)} {fr : Fr} {ds : List (Nat × List EV)} {u : Option EV} {m : Mem} : u7 fun k => bK (aC T k) k rs D fr ds u m := fun k k' _ h e => eI (gT T k k' h) h _ _ _ _ e
theorem rp {F : ar} {args : List EV} {m : Mem} {r : Fin} : Ba T F args m = some r ↔ ∃ k, cf (aC T k) k F args m = some r := lF o7
theorem px {d : Nat} {F : ar} {args : List EV} {u : Option EV} {m : Mem} {r : Mem} : yG T d F args u m = some r ↔ ∃ k, dj (aC T k) k d F args u m = some r := lF rT
theorem da {rs : List jd} {D : List (Nat × Option Nat × ar)} {fr : Fr} {ds : List (Nat × List EV)} {u : Option EV} {m : Mem} {r : Fin} : jA T rs D fr ds u m = some r ↔ ∃ k, bK (aC T k) k rs D fr ds u m = some r := lF lD
theorem KT {F : ar} {args : List EV} {m : Mem} (hn : args.length <= F.ntmps) : Ba T F args m = nu F (exec T F.body ⟨bO args 0 .leaf, []⟩ m) := by
 have hb : args.length.ble F.ntmps = true := lJ hn
 refine bV fun r => ?_
 rw [rp]
 constructor
 ·rintro ⟨k, h⟩
  simp only [cf, hb, cond_true] at h
  cases hc : ah (aC T k) k F.body ⟨bO args 0 .leaf, []⟩ m with
  | none => simp [hc] at h
  | some o =>
   rw [bn.2 ⟨k, hc⟩];simp only [hc] at h
   cases o <;> exact h
 ·intro h
  cases hc : exec T F.body ⟨bO args 0 .leaf, []⟩ m with
  | none => simp [hc, nu] at h
  | some o =>
   obtain ⟨k, hk⟩ := bn.1 hc
   rw [hc] at h;refine ⟨k, ?_⟩
   simp only [cf, hb, cond_true, hk]
   cases o <;> exact h
def L8 (rs : List jd) (o : Option Out) : Option Mem := match o with
 | some (.norm fr m) => match fr.defers with
  | [] => (aX fr m rs).map fun _ => m
  | _ => none
 | some (.ret fr m) => match fr.defers with
  | [] => (aX fr m rs).map fun _ => m
  | _ => none
 | _ => none
theorem Hn {d : Nat} {F : ar} {args : List EV} {u : Option EV} {m : Mem} (hn : args.length <= F.ntmps) : yG T d F args u m = L8 F.results (exec T F.body (Fr.set ⟨bO args 0 .leaf, []⟩ d (u.getD .aq)) m) := by
 have hb : args.length.ble F.ntmps = true := lJ hn
 refine bV fun r => ?_
 rw [px]
 constructor
 ·rintro ⟨k, h⟩
  simp only [dj, hb, cond_true] at h
  cases hc : ah (aC T k) k F.body (Fr.set ⟨bO args 0 .leaf, []⟩ d (u.getD .aq)) m with
  | none => simp [hc] at h
  | some o =>
   rw [bn.2 ⟨k, hc⟩];simp only [hc] at h
   cases o <;> exact h
 ·intro h
  cases hc : exec T F.body (Fr.set ⟨bO args 0 .leaf, []⟩ d (u.getD .aq)) m with
  | none => simp [hc, L8] at h
  | some o =>
   obtain ⟨k, hk⟩ := bn.1 hc
   rw [hc] at h;refine ⟨k, ?_⟩
   simp only [dj, hb, cond_true, hk]
   cases o <;> exact h
theorem CC {rs : List jd} {D : List (Nat × Option Nat × ar)} {fr : Fr} {m : Mem} : jA T rs D fr [] none m = (aX fr m rs).map fun vs => .ret (one vs) m := by
 refine bV fun r => ?_
 rw [da];simp only [bK, exists_const]
theorem CB {rs : List jd} {D : List (Nat × Option Nat × ar)} {fr : Fr} {v : EV} {m : Mem} : jA T rs D fr [] (some v) m = some (.dZ v m) := by
 refine bV fun r => ?_
 rw [da];simp only [bK, exists_const]
theorem CA {rs : List jd} {D : List (Nat × Option Nat × ar)} {fr : Fr} {g d : Nat} {F : ar} {args : List EV} {ds : List (Nat × List EV)} {u : Option EV} {m : Mem} (hd : jq g D = some (some d, F)) :
  jA T rs D fr ((g, args) :: ds) u m = (yG T d F args u m).bind fun m => jA T rs D fr ds none m := by
 refine bV fun r => ?_
 rw [da];simp only [bK, hd]
 constructor
 ·rintro ⟨k, h⟩
  cases hb : dj (aC T k) k d F args u m with
  | none => simp [hb] at h
  | some m1 =>
   simp only [hb] at h;rw [px.2 ⟨k, hb⟩];exact da.2 ⟨k, h⟩
 ·intro h
  obtain ⟨m1, h1, h2⟩ := Option.bind_eq_some_iff.1 h
  obtain ⟨k1, e1⟩ := px.1 h1
  obtain ⟨k2, e2⟩ := da.1 h2
  refine ⟨max k1 k2, ?_⟩
  have g1 := rT _ _ _ (Nat.le_max_left k1 k2) e1
  have g2 := lD _ _ _ (Nat.le_max_right k1 k2) e2
  simp only at g1 g2
  simp only [g1]; exact g2
def Jo (u : Option EV) (k : Option EV -> Mem -> Option Fin) : Option Fin -> Option Fin
 | some (.ret _ m) => k u m
 | some (.dZ v m) => match u with
  | none => k (some v) m
  | some _ => none
 | none => none
theorem zX {rs : List jd} {D : List (Nat × Option Nat × ar)} {fr : Fr} {g : Nat} {F : ar} {args : List EV} {ds : List (Nat × List EV)} {u : Option EV} {m : Mem} (hd : jq g D = some (none, F)) :
  jA T rs D fr ((g, args) :: ds) u m = Jo u (fun u m => jA T rs D fr ds u m) (Ba T F args m) := by
 refine bV fun r => ?_
 rw [da];simp only [bK, hd]
 constructor
 ·rintro ⟨k, h⟩
  cases hb : cf (aC T k) k F args m with
  | none => simp [hb] at h
  | some fin =>
   simp only [hb] at h;rw [rp.2 ⟨k, hb⟩]
   cases fin with
   | ret v m1 => exact da.2 ⟨k, h⟩
   | dZ v m1 =>
    cases u with
    | none => exact da.2 ⟨k, h⟩
    | some x => cases h
 ·intro h
  cases hb : Ba T F args m with
  | none => simp [hb, Jo] at h
  | some fin =>
   obtain ⟨k1, e1⟩ := rp.1 hb
   rw [hb] at h;have rk : ∀ {u2 : Option EV} {m2 : Mem}, jA T rs D fr ds u2 m2 = some r -> ∃ k2, k1 <= k2 /\ bK (aC T k2) k2 rs D fr ds u2 m2 = some r := fun e => by
    obtain ⟨k2, e2⟩ := da.1 e
    exact ⟨max k1 k2, Nat.le_max_left _ _, lD _ _ _ (Nat.le_max_right k1 k2) e2⟩
   cases fin with
   | ret v m1 =>
    obtain ⟨k2, hk, e2⟩ := rk h
    have g1 := o7 _ _ _ hk e1
    simp only at g1
    exact ⟨k2, by simp only [g1]; exact e2⟩
   | dZ v m1 =>
    cases u with
    | none =>
     obtain ⟨k2, hk, e2⟩ := rk h
     have g1 := o7 _ _ _ hk e1
     simp only at g1
     exact ⟨k2, by simp only [g1]; exact e2⟩
    | some x => cases h
noncomputable def Rw (T : Nat -> Option fg) (rs : List jd) (D : List (Nat × Option Nat × ar)) (o : Option Out) : Option Fin := match o with
 | some (.norm fr m) => jA T rs D fr fr.defers none m
 | some (.ret fr m) => jA T rs D fr fr.defers none m
 | some (.dZ v fr m) => jA T rs D fr fr.defers (some v) m
 | _ => none
theorem L3 {f : Nat} {F : ar} {D : List (Nat × Option Nat × ar)} (hf : T f = some (.EK F D)) {args : List EV} {m : Mem} (hn : args.length <= F.ntmps) : run T f args m = Rw T F.results D (exec T F.body ⟨bO args 0 .leaf, []⟩ m) := by
 have hb : args.length.ble F.ntmps = true := lJ hn
 refine bV fun r => ?_
 rw [jF]
 constructor
 ·rintro ⟨k, h⟩
  cases k with
  | zero => simp [aC] at h
  | succ k =>
   simp only [aC, hf, fc, fC, hb, cond_true] at h
   cases hc : ah (aC T k) k F.body ⟨bO args 0 .leaf, []⟩ m with
   | none => simp [hc] at h
   | some o =>
    rw [bn.2 ⟨k, hc⟩];simp only [hc] at h
    cases o with
    | norm fr m1 => exact da.2 ⟨k, h⟩
    | ret fr m1 => exact da.2 ⟨k, h⟩
    | dZ v fr m1 => exact da.2 ⟨k, h⟩
    | exit id fr m1 => cases h
 ·intro h
  cases hc : exec T F.body ⟨bO args 0 .leaf, []⟩ m with
  | none => simp [hc, Rw] at h
  | some o =>
   obtain ⟨k1, e1⟩ := bn.1 hc
   rw [hc] at h;have rk : ∀ {fr : Fr} {ds : List (Nat × List EV)} {u2 : Option EV} {m2 : Mem}, jA T F.results D fr ds u2 m2 = some r -> ∃ k2, k1 <= k2 /\ bK (aC T k2) k2 F.results D fr ds u2 m2 = some r := fun e => by
    obtain ⟨k2, e2⟩ := da.1 e
    exact ⟨max k1 k2, Nat.le_max_left _ _, lD _ _ _ (Nat.le_max_right k1 k2) e2⟩
   cases o with
   | exit id fr m1 => cases h
   | norm fr m1 =>
    obtain ⟨k2, hk, e2⟩ := rk h
    have g1 := fL _ _ _ hk e1
    simp only at g1
    exact ⟨k2 + 1, by simp only [aC, hf, fc, fC, hb, cond_true, g1]; exact e2⟩
   | ret fr m1 =>
    obtain ⟨k2, hk, e2⟩ := rk h
    have g1 := fL _ _ _ hk e1
    simp only at g1
    exact ⟨k2 + 1, by simp only [aC, hf, fc, fC, hb, cond_true, g1]; exact e2⟩
   | dZ v fr m1 =>
    obtain ⟨k2, hk, e2⟩ := rk h
    have g1 := fL _ _ _ hk e1
    simp only at g1
    exact ⟨k2 + 1, by simp only [aC, hf, fc, fC, hb, cond_true, g1]; exact e2⟩
end
end
section
def oE : Fr := ⟨.leaf, []⟩
theorem mg (t : Nat) : oE.get t = .undef := by unfold Fr.get oE; simp only [Tr.ql]; rfl
theorem rY : oE.defers = [] := rfl
def B7 (b : Bool) (v r : EV) : EV := bif b then v else r
@[congr] theorem Pq {b b' : Bool} {v r : EV} (h : b = b') : B7 b v r = B7 b' v r := by rw [h]
theorem Iu {v r : EV} : B7 true v r = v := rfl
theorem ux (fr : Fr) (d t : Nat) (v : EV) : (fr.set d v).get t = B7 (t == d) v (fr.get t) := by
 rw [Fr.ba];by_cases h : t = d
 ·simp [B7, h]
 ·simp [B7, h, beq_eq_false_iff_ne.2 h]
theorem B6 {v r : EV} : B7 false v r = r := rfl
def ag : List EV -> Nat -> Fr -> Fr
 | [], _, fr => fr
 | v :: r, i, fr => ag r (i + 1) (fr.set i v)
theorem uY : ∀ (l : List EV) (i : Nat) (t : Tr EV), ag l i ⟨t, []⟩ = ⟨bO l i t, []⟩
 | [], i, t => rfl
 | v :: l, i, t => by simp only [ag, bO, Fr.set]; exact uY l (i + 1) _
theorem zu (fr : Fr) (d : Nat) (v : EV) : fr.put (some d) v = fr.set d v := rfl
theorem zw (fr : Fr) (v : EV) : fr.put none v = fr := rfl
theorem tC (fr : Fr) (d : Nat) (v : EV) : (fr.set d v).defers = fr.defers := rfl
theorem Kq (fr : Fr) (t : Nat) : fr.eval (.tmp t) = fr.get t := rfl
theorem eval_const (fr : Fr) (v : EV) : fr.eval (.const v) = v := rfl
theorem F6 (m : Mem) (v : EV) : dQ m (some v) = some (.val v m) := rfl
theorem F7 (m : Mem) (v : EV) : oq (some (v, m)) = some (.val v m) := rfl
theorem IZ (m : Mem) : ofM (some m) = some (.val .undef m) := rfl
@[congr] theorem Ok {o o' : Option R1} {k : EV -> Mem -> Option Out} (h : o = o') : dY o k = dY o' k := by rw [h]
@[congr] theorem Ot {o o' : Option Fin} {fr : Fr} {k : EV -> Mem -> Option Out} (h : o = o') : lu o fr k = lu o' fr k := by rw [h]
@[congr] theorem Oo {o o' : Option Out} {k : Fr -> Mem -> Option Out} (h : o = o') : ik o k = ik o' k := by rw [h]
theorem BC {v : EV} {m : Mem} {k : EV -> Mem -> Option Out} : dY (some (.val v m)) k = k v m := rfl
theorem Fj {v : EV} {m : Mem} {fr : Fr} {k : EV -> Mem -> Option Out} : lu (some (.ret v m)) fr k = k v m := rfl
theorem BE {fr : Fr} {m : Mem} {k : Fr -> Mem -> Option Out} : ik (some (.norm fr m)) k = k fr m := rfl
theorem Fh {fr : Fr} {m : Mem} {k : Fr -> Mem -> Option Out} : ik (some (.ret fr m)) k = some (.ret fr m) := rfl
theorem BF {id : Nat} {fr : Fr} {m : Mem} {k : Fr -> Mem -> Option Out} : ik (some (.exit id fr m)) k = some (.exit id fr m) := rfl
theorem Cy {id : Nat} {fr : Fr} {m : Mem} : lb id (some (.norm fr m)) = some (.norm fr m) := rfl
theorem Gt {id : Nat} {fr : Fr} {m : Mem} : lb id (some (.ret fr m)) = some (.ret fr m) := rfl
def B5 (b : Bool) (x y : Option Out) : Option Out := bif b then x else y
@[congr] theorem Pp {b b' : Bool} {x y : Option Out} (h : b = b') : B5 b x y = B5 b' x y := by rw [h]
theorem Pn {x y : Option Out} : B5 true x y = x := rfl
theorem Po {x y : Option Out} : B5 false x y = y := rfl
theorem Cz {id j : Nat} {fr : Fr} {m : Mem} : lb id (some (.exit j fr m)) = B5 (j == id) (some (.norm fr m)) (some (.exit j fr m)) := by
 by_cases h : j = id
 ·subst h; simp [lb, B5]
 ·simp [lb, B5, gf h, beq_eq_false_iff_ne.2 h]
def qT (rs : List jd) (o : Option Out) : Option Fin := match o with
 | some (.norm fr m) | some (.ret fr m) => match fr.defers with
  | [] => (aX fr m rs).map fun vs => .ret (one vs) m
  | _ => none
 | some (.dZ v fr m) => match fr.defers with
  | [] => some (.dZ v m)
  | _ => none
 | _ => none
theorem D7 (F : ar) (o : Option Out) : nu F o = qT F.results o := by cases o with | none => rfl | some o => cases o <;> rfl
theorem IF {rs : List jd} {fr : Fr} {m : Mem} : qT rs (some (.ret fr m)) = match fr.defers with | [] => (aX fr m rs).map fun vs => .ret (one vs) m | _ => none := rfl
theorem FI {rs : List jd} {fr : Fr} {m : Mem} : qT rs (some (.norm fr m)) = match fr.defers with | [] => (aX fr m rs).map fun vs => .ret (one vs) m | _ => none := rfl
theorem IG {rs : List jd} {fr : Fr} {m : Mem} {v : EV} : qT rs (some (.dZ v fr m)) = match fr.defers with | [] => some (.dZ v m) | _ => none := rfl
theorem L6 {fr : Fr} {m : Mem} : aX fr m [] = some [] := rfl
theorem L5 {fr : Fr} {m : Mem} {t : Nat} {rs : List jd} : aX fr m (.tmp t :: rs) = (aX fr m rs).map (fr.get t :: ·) := rfl
theorem Mk (v : EV) : one [v] = v := rfl
theorem Mj (v u : EV) (l : List EV) : one (v :: u :: l) = .tuple (v :: u :: l) := rfl
theorem Ml : one [] = .tuple [] := rfl
section
variable {k l : IntKind} {a b : Int}
def RJ (k : IntKind) (x y : Int) : Int := k.wrap (BitVec.ofInt k.bits x &&& BitVec.ofInt k.bits y).toNat
def QX (k : IntKind) (x y : Int) : Int := k.wrap (BitVec.ofInt k.bits x ||| BitVec.ofInt k.bits y).toNat
def RH (k : IntKind) (x y : Int) : Int := k.wrap (BitVec.ofInt k.bits x ^^^ BitVec.ofInt k.bits y).toNat
def Er (k : IntKind) (x y : Int) : Int := k.wrap (BitVec.ofInt k.bits x &&& ~~~BitVec.ofInt k.bits y).toNat
theorem Of : aV .add (.int k a) (.int k b) = some (.int k (k.wrap (a + b))) := by simp only [aV, cd, cond_true, jZ]
theorem N6 : aV .sub (.int k a) (.int k b) = some (.int k (k.wrap (a - b))) := by simp only [aV, cd, cond_true, jZ]
theorem N9 : aV .mul (.int k a) (.int k b) = some (.int k (k.wrap (a * b))) := by simp only [aV, cd, cond_true, jZ]
theorem N8 : aV .quo (.int k a) (.int k b) = if b = 0 then none else some (.int k (k.wrap (a.tdiv b))) := by simp only [aV, cd, cond_true, jZ]
theorem N7 : aV .rem (.int k a) (.int k b) = if b = 0 then none else some (.int k (a.tmod b)) := by simp only [aV, cd, cond_true, jZ]
theorem Oe : aV .and (.int k a) (.int k b) = some (.int k (RJ k a b)) := by simp only [aV, cd, cond_true, jZ, lR, Option.map_some, RJ]
theorem QD : aV .or (.int k a) (.int k b) = some (.int k (QX k a b)) := by simp only [aV, cd, cond_true, jZ, lR, Option.map_some, QX]
theorem N5 : aV .xor (.int k a) (.int k b) = some (.int k (RH k a b)) := by simp only [aV, cd, cond_true, jZ, lR, Option.map_some, RH]
theorem DF : aV .andNot (.int k a) (.int k b) = some (.int k (Er k a b)) := by simp only [aV, cd, cond_true, jZ, lR, Option.map_some, Er]
theorem Oa : aV .lss (.int k a) (.int k b) = some (.bool (decide (a < b))) := by simp only [aV, cd, cond_true, jZ]
theorem Ob : aV .leq (.int k a) (.int k b) = some (.bool (decide (a <= b))) := by simp only [aV, cd, cond_true, jZ]
theorem Oc : aV .gtr (.int k a) (.int k b) = some (.bool (decide (b < a))) := by simp only [aV, cd, cond_true, jZ]
theorem Od : aV .geq (.int k a) (.int k b) = some (.bool (decide (b <= a))) := by simp only [aV, cd, cond_true, jZ]
theorem ES : aV .shl (.int k a) (.int l b) = if b < 0 then none else some (.int k (k.wrap (a * 2 ^ min b.toNat k.bits))) := by simp only [aV, mQ]
theorem ER : aV .shr (.int k a) (.int l b) = if b < 0 then none else some (.int k (a.fdiv (2 ^ min b.toNat k.bits))) := by simp only [aV, mQ]
theorem Bf (h1 : 0 <= b) (h2 : b < 64) : aV .shl (.int .i64 a) (.int l b) = some (.int .i64 (IntKind.i64.wrap (a * 2 ^ b.toNat))) := by
 rw [ES, if_neg (by omega), show IntKind.i64.bits = 64 from rfl, Nat.min_eq_left (by omega)]
theorem Bd (h1 : 0 <= b) (h2 : b < 64) : aV .shr (.int .i64 a) (.int l b) = some (.int .i64 (a.fdiv (2 ^ b.toNat))) := by
 rw [ER, if_neg (by omega), show IntKind.i64.bits = 64 from rfl, Nat.min_eq_left (by omega)]
theorem Be (h1 : 0 <= b) (h2 : b < 64) : aV .shl (.int .u64 a) (.int l b) = some (.int .u64 (IntKind.u64.wrap (a * 2 ^ b.toNat))) := by
 rw [ES, if_neg (by omega), show IntKind.u64.bits = 64 from rfl, Nat.min_eq_left (by omega)]
theorem Bc (h1 : 0 <= b) (h2 : b < 64) : aV .shr (.int .u64 a) (.int l b) = some (.int .u64 (a.fdiv (2 ^ b.toNat))) := by
 rw [ER, if_neg (by omega), show IntKind.u64.bits = 64 from rfl, Nat.min_eq_left (by omega)]
theorem jc {a b : List UInt8} : aV .add (.str a) (.str b) = bif (a.length + b.length).ble 4294967296 then some (.str (a ++ b)) else none := rfl
theorem eq_int : cL (.ax 1) (.int k a) (.int k b) = some (decide (a = b)) := by simp only [cL, ca, cd, cond_true]
theorem Pc : uF .neg (.int k a) = some (.int k (k.wrap (0 - a))) := rfl
theorem Qy {m : Mem} : fA (.int l) m (.int k a) = some (.int l (l.wrap a), m) := rfl
end
theorem Kr {ρ : aD -> EV} {m : Mem} (x : aD) : ap ρ (.ab x) m = some (.val (ρ x) m) := rfl
theorem Da {ρ : aD -> EV} {m : Mem} (zero : List EV) (parts : List (Nat × Nat × aD)) : ap ρ (.build zero parts) m = dQ m ((cU zero (parts.map fun p => (p.1, p.2.1, ρ p.2.2))).map .agg) := rfl
theorem G0 {ρ : aD -> EV} {m : Mem} (agg : Option Nat) (a : aD) : ap ρ (.load agg a) m = dQ m (m.load agg (ρ a)) := rfl
theorem C3 {ρ : aD -> EV} {m : Mem} (size : Nat) (a x : aD) : ap ρ (.store size a x) m = ofM (m.store size (ρ a) (ρ x)) := rfl
theorem C7 {ρ : aD -> EV} {m : Mem} (x : aD) : ap ρ (.kn x) m = match ρ x with
  | .ptr b off => some (.val (.ptr b off) m)
  | .func f a c => some (.val (.func f a c) m)
  | .iface t v => some (.val (.iface t v) m)
  | .dl e els i k => some (.val (.dl e els i k) m)
  | _ => none := rfl
theorem Kw {ρ : aD -> EV} {m : Mem} (op : BinOp) (x y : aD) : ap ρ (.bin op x y) m = dQ m (aV op (ρ x) (ρ y)) := rfl
theorem NM {ρ : aD -> EV} {m : Mem} (neg : Bool) (t : mw) (x y : aD) : ap ρ (.eq neg t x y) m = dQ m ((cL t (ρ x) (ρ y)).map fun b => .bool (neg ^^ b)) := rfl
theorem NL {ρ : aD -> EV} {m : Mem} (op : UnOp) (x : aD) : ap ρ (.un op x) m = dQ m (uF op (ρ x)) := rfl
theorem G3 {ρ : aD -> EV} {m : Mem} (c : Cv) (x : aD) : ap ρ (.conv c x) m = oq (fA c m (ρ x)) := rfl
theorem C8 {ρ : aD -> EV} {m : Mem} (t : Nat) (x : aD) : ap ρ (.iface t x) m = some (.val (.iface t (ρ x)) m) := rfl
theorem GZ {ρ : aD -> EV} {m : Mem} (f : Nat) (a c : List aD) : ap ρ (.tX f a c) m = some (.val (.func f (a.map ρ) (c.map ρ)) m) := rfl
theorem yi {ρ : aD -> EV} {m : Mem} (elem esz : Nat) (zero : List EV) (len cap : aD) : ap ρ (.gy elem esz zero len cap) m = match ρ len, ρ cap with
  | .int .i64 (.ofNat l), .int .i64 (.ofNat c) => bif (bif l.ble c then c.ble room else false) then
    some (.val (.slice m.next 0 l (some c)) (m.new (.cells (cH c zero) esz elem false))) else none
  | _, _ => none := rfl
theorem C4 {ρ : aD -> EV} {m : Mem} (x : aD) (lo hi : Option aD) : ap ρ (.mW x lo hi) m = match ρ x with
  | .str s => match aw (hi.map ρ) s.length s.length with
   | some h => match aw (lo.map ρ) 0 h with
    | some l => some (.val (.str ((s.take h).drop l)) m)
    | none => none
   | none => none
  | _ => none := rfl
theorem C5 {ρ : aD -> EV} {m : Mem} (n esz : Nat) (x : aD) (lo hi max : Option aD) : ap ρ (.kU n esz x lo hi max) m = match ρ x with
  | .ptr b off => dQ m (b9 esz b off n (some n) (lo.map ρ) (hi.map ρ) (max.map ρ))
  | _ => none := rfl
theorem C9 {ρ : aD -> EV} {m : Mem} (off : Nat) (x : aD) : ap ρ (.ak off x) m = match ρ x with
  | .ptr b o => some (.val (.ptr b (o + off)) m)
  | .dl e els i k => some (.val (.dl e els i (k + off)) m)
  | _ => none := rfl
theorem Ku {ρ : aD -> EV} {m : Mem} (agg : Option Nat) (off : Nat) (x : aD) : ap ρ (.OX agg off x) m = match ρ x with
  | .agg cs => dQ m (partOf agg cs off)
  | _ => none := rfl
theorem vJ {ρ : aD -> EV} {m : Mem} (n esz : Nat) (x i : aD) : ap ρ (.c7 n esz x i) m = match ρ x with
  | .ptr b off => match idx n (ρ i) with
   | some i => some (.val (.ptr b (off + i * esz)) m)
   | none => none
  | _ => none := rfl
theorem AE {ρ : aD -> EV} {m : Mem} (x i : aD) : ap ρ (.cO x i) m = match ρ x with
  | .str s => match idx s.length (ρ i) with
   | some i => match s[i]? with
    | some c => some (.val (.int .u8 (c.toNat : Int)) m)
    | none => none
   | none => none
  | _ => none := rfl
theorem AF {ρ : aD -> EV} {m : Mem} (n esz : Nat) (agg : Option Nat) (x i : aD) : ap ρ (.nF n esz agg x i) m = match ρ x with
  | .agg cs => match idx n (ρ i) with
   | some i => dQ m (partOf agg cs (i * esz))
   | none => none
  | _ => none := rfl
theorem Az {ρ : aD -> EV} {m : Mem} (kt : Nat) (zero : EV) (ok : Bool) (mp k : aD) : ap ρ (.lookup kt zero ok mp k) m = match ρ mp with
  | .aS => bif iX kt (ρ k) then some (.val (bif ok then .tuple [zero, .bool false] else zero) m) else none
  | .map b => match m.get b with
   | .map es => bif e7 kt (ρ k) es then
     match find (ρ k) es with
     | some v => some (.val (bif ok then .tuple [v, .bool true] else v) m)
     | none => some (.val (bif ok then .tuple [zero, .bool false] else zero) m)
    else none
   | _ => none
  | _ => none := rfl
theorem Ay {ρ : aD -> EV} {m : Mem} (kt : Nat) (mp k x : aD) : ap ρ (.kY kt mp k x) m = match ρ mp with
  | .map b => match m.get b with
   | .map es => bif e7 kt (ρ k) es then some (.val .undef (m.set b (.map (update (ρ k) (ρ x) es)))) else none
   | _ => none
  | _ => none := rfl
theorem AH {ρ : aD -> EV} {m : Mem} (kt : Nat) (mp k : aD) : ap ρ (.delete kt mp k) m = match ρ mp with
  | .aS => bif iX kt (ρ k) then some (.val (.tuple []) m) else none
  | .map b => match m.get b with
   | .map es => bif e7 kt (ρ k) es then some (.val (.tuple []) (m.set b (.map (erase (ρ k) es)))) else none
   | _ => none
  | _ => none := rfl
theorem AB {ρ : aD -> EV} {m : Mem} (mp : aD) : ap ρ (.lP mp) m = match ρ mp with
  | .aS => some (.val (.int .i64 0) m)
  | .map b => match m.get b with
   | .map es => some (.val (.int .i64 (es.length : Int)) m)
   | _ => none
  | _ => none := rfl
theorem yh {ρ : aD -> EV} {m : Mem} (t : Nat) (x : aD) : ap ρ (.ly t x) m = match ρ x with
  | .iface u v => bif t.beq u then some (.val v m) else none
  | _ => none := rfl
theorem yj {ρ : aD -> EV} {m : Mem} (x : aD) (i : Nat) : ap ρ (.extract x i) m = match ρ x with
  | .tuple vs => dQ m vs[i]?
  | _ => none := rfl
theorem AA {ρ : aD -> EV} {m : Mem} (x : aD) : ap ρ (.eH x) m = match ρ x with
  | .str s => some (.val (.int .i64 (s.length : Int)) m)
  | _ => none := rfl
theorem AD {ρ : aD -> EV} {m : Mem} (n : Nat) : ap ρ (.nB n) m = some (.val (.int .i64 (n : Int)) m) := rfl
theorem Kv {ρ : aD -> EV} {m : Mem} (x : aD) : ap ρ (.cap x) m = match ρ x with
  | .aa => some (.val (.int .i64 0) m)
  | .slice _ _ _ (some c) => some (.val (.int .i64 (c : Int)) m)
  | _ => none := rfl
theorem Kt {ρ : aD -> EV} {m : Mem} (args : List aD) : ap ρ (.max args) m = dQ m (lH (args.map ρ)) := rfl
theorem Ks {ρ : aD -> EV} {m : Mem} (args : List aD) : ap ρ (.min args) m = dQ m (sc (args.map ρ)) := rfl
theorem AI {ρ : aD -> EV} {m : Mem} (elem esz bytes : Nat) (s x : aD) : ap ρ (.append elem esz bytes s x) m = oq (eu m elem esz (ρ s) (ρ x)) := rfl
theorem G2 {ρ : aD -> EV} {m : Mem} (esz : Nat) (d s : aD) : ap ρ (.copy esz d s) m = oq (pn m esz (ρ d) (ρ s)) := rfl
open Classical in
noncomputable def bo (p : Prop) : EV := .bool (decide p)
open Classical in
noncomputable def gv (p : Prop) (v : EV) : EV := if p then v else .undef
open Classical in
noncomputable def iF {α : Type} (p : Prop) (x y : α) : α := if p then x else y
theorem Hr {p : Prop} [h : Decidable p] : EV.bool (decide p) = bo p := by unfold bo; congr
theorem vP {p : Prop} [h : Decidable p] : EV.bool (!decide p) = bo (¬ p) := by
 unfold bo; by_cases hp : p <;> simp [hp]
theorem nc : bo True = .bool true := by simp [bo]
theorem lh : bo False = .bool false := by simp [bo]
theorem KU {p : Prop} (h : p) : bo p = .bool true := by simp [bo, h]
theorem QC {p : Prop} (h : ¬ p) : bo p = .bool false := by simp [bo, h]
theorem M5 {v : EV} : gv True v = v := by simp [gv]
theorem J8 {v : EV} : gv False v = .undef := by simp [gv]
theorem CF {α : Type} {p : Prop} (h : p) {x y : α} : iF p x y = x := by simp [iF, h]
theorem CG {α : Type} {p : Prop} (h : ¬ p) {x y : α} : iF p x y = y := by simp [iF, h]
@[congr] theorem RK {α : Type} {p p' : Prop} {x x' y y' : α} (h : p = p') (h1 : p' -> x = x') (h2 : ¬ p' -> y = y') : iF p x y = iF p' x' y' := by
 subst h; by_cases hp : p
 ·rw [CF hp, CF hp]; exact h1 hp
 ·rw [CG hp, CG hp]; exact h2 hp
def cE (v : EV) (x y : Option Out) : Option Out := match v with
 | .bool true => x
 | .bool false => y
 | _ => none
@[congr] theorem Ti {v v' : EV} {x y : Option Out} (h : v = v') : cE v x y = cE v' x y := by rw [h]
theorem Tj {p : Prop} {x y : Option Out} : cE (bo p) x y = iF p x y := by by_cases h : p <;> simp [bo, iF, cE, h]
theorem Wx {x y : Option Out} : cE (.bool true) x y = x := rfl
theorem Wy {x y : Option Out} : cE (.bool false) x y = y := rfl
theorem C0 {T : Nat -> Option fg} {c : aD} {a b : au} {fr : Fr} {m : Mem} : exec T (.cond c a b) fr m = cE (fr.eval c) (exec T a fr m) (exec T b fr m) := by
 cases h : fr.eval c
 case bool t => rw [w9 h]; cases t <;> rfl
 all_goals
  refine bV fun r => ?_
  rw [bn];simp only [ah, h, reduceCtorEq, exists_const, cE]
open Classical in
noncomputable def jm (p : Prop) (m : Mem) (o : Option R1) (k : EV -> Mem -> Option Out) : Option Out := if p then dY o k else k .undef m
open Classical in
noncomputable def jl (p : Prop) (fr : Fr) (m : Mem) (o : Option Fin) (k : EV -> Mem -> Option Out) : Option Out := if p then lu o fr k else k .undef m
@[congr] theorem On {p p' : Prop} {m : Mem} {o o' : Option R1} {k : EV -> Mem -> Option Out} (h : p = p') (ho : p' -> o = o') : jm p m o k = jm p' m o' k := by
 subst h; by_cases hp : p <;> simp only [jm, hp, if_true, if_false]; rw [ho hp]
@[congr] theorem Om {p p' : Prop} {fr : Fr} {m : Mem} {o o' : Option Fin} {k : EV -> Mem -> Option Out} (h : p = p') (ho : p' -> o = o') : jl p fr m o k = jl p' fr m o' k := by
 subst h; by_cases hp : p <;> simp only [jl, hp, if_true, if_false]; rw [ho hp]
theorem Fg {p : Prop} {m m' : Mem} {v : EV} {k : EV -> Mem -> Option Out} (he : p -> m' = m) : jm p m (some (.val v m')) k = k (gv p v) m := by
 by_cases h : p
 ·rw [he h]; simp [jm, gv, dY, h]
 ·simp [jm, gv, h]
theorem Ff {p : Prop} {fr : Fr} {m m' : Mem} {v : EV} {k : EV -> Mem -> Option Out} (he : p -> m' = m) : jl p fr m (some (.ret v m')) k = k (gv p v) m := by
 by_cases h : p
 ·rw [he h]; simp [jl, gv, lu, h]
 ·simp [jl, gv, h]
def gE (v : EV) (w : Bool) (x y : Option Out) : Option Out := match v with
 | .bool b => bif b == w then x else y
 | .undef => y
 | _ => none
@[congr] theorem SN {v v' : EV} {w : Bool} {x y : Option Out} (h : v = v') : gE v w x y = gE v' w x y := by rw [h]
def gV (v : EV) (w : Bool) (m : Mem) (o : Option R1) (k : EV -> Mem -> Option Out) : Option Out := gE v w (dY o k) (k .undef m)
def gC (v : EV) (w : Bool) (fr : Fr) (m : Mem) (o : Option Fin) (k : EV -> Mem -> Option Out) : Option Out := gE v w (lu o fr k) (k .undef m)
@[congr] theorem SI {v v' : EV} {w : Bool} {m : Mem} {o : Option R1} {k : EV -> Mem -> Option Out} (h : v = v') : gV v w m o k = gV v' w m o k := by rw [h]
@[congr] theorem SU {v v' : EV} {w : Bool} {fr : Fr} {m : Mem} {o : Option Fin} {k : EV -> Mem -> Option Out} (h : v = v') : gC v w fr m o k = gC v' w fr m o k := by rw [h]
section
variable {p q : Prop} {b : Bool} {w : Bool} {fr : Fr} {m : Mem} {o : Option R1} {c : Option Fin} {k : EV -> Mem -> Option Out}
theorem Kd : gV .undef w m o k = k .undef m := rfl
theorem Kf : gC .undef w fr m c k = k .undef m := rfl
theorem Nc : gV (bo p) true m o k = jm p m o k := by by_cases h : p <;> simp [gV, gE, bo, jm, h]
theorem Nf : gV (bo p) false m o k = jm (¬ p) m o k := by by_cases h : p <;> simp [gV, gE, bo, jm, h]
theorem SE : gV (.bool true) true m o k = dY o k := rfl
theorem SF : gV (.bool true) false m o k = k .undef m := rfl
theorem SG : gV (.bool false) true m o k = k .undef m := rfl
theorem SH : gV (.bool false) false m o k = dY o k := rfl
theorem M6 : gV (gv p (bo q)) true m o k = jm (p /\ q) m o k := by by_cases h : p <;> by_cases h' : q <;> simp [gV, gE, bo, gv, jm, h, h']
theorem M7 : gV (gv p (bo q)) false m o k = jm (p /\ ¬ q) m o k := by by_cases h : p <;> by_cases h' : q <;> simp [gV, gE, bo, gv, jm, h, h']
theorem M8 : gV (gv p (.bool true)) true m o k = jm p m o k := by by_cases h : p <;> simp [gV, gE, gv, jm, h]
theorem M9 : gV (gv p (.bool true)) false m o k = k .undef m := by by_cases h : p <;> simp [gV, gE, gv, h]
theorem Na : gV (gv p (.bool false)) true m o k = k .undef m := by by_cases h : p <;> simp [gV, gE, gv, h]
theorem Nb : gV (gv p (.bool false)) false m o k = jm p m o k := by by_cases h : p <;> simp [gV, gE, gv, jm, h]
theorem Nx : gC (bo p) true fr m c k = jl p fr m c k := by by_cases h : p <;> simp [gC, gE, bo, jl, h]
theorem Ny : gC (bo p) false fr m c k = jl (¬ p) fr m c k := by by_cases h : p <;> simp [gC, gE, bo, jl, h]
theorem SO : gC (.bool true) true fr m c k = lu c fr k := rfl
theorem SP : gC (.bool true) false fr m c k = k .undef m := rfl
theorem SQ : gC (.bool false) true fr m c k = k .undef m := rfl
theorem SS : gC (.bool false) false fr m c k = lu c fr k := rfl
theorem Nq : gC (gv p (bo q)) true fr m c k = jl (p /\ q) fr m c k := by by_cases h : p <;> by_cases h' : q <;> simp [gC, gE, bo, gv, jl, h, h']
theorem Nr : gC (gv p (bo q)) false fr m c k = jl (p /\ ¬ q) fr m c k := by by_cases h : p <;> by_cases h' : q <;> simp [gC, gE, bo, gv, jl, h, h']
theorem Ns : gC (gv p (.bool true)) true fr m c k = jl p fr m c k := by by_cases h : p <;> simp [gC, gE, gv, jl, h]
theorem Nt : gC (gv p (.bool true)) false fr m c k = k .undef m := by by_cases h : p <;> simp [gC, gE, gv, h]
theorem Nu : gC (gv p (.bool false)) true fr m c k = k .undef m := by by_cases h : p <;> simp [gC, gE, gv, h]
theorem Nw : gC (gv p (.bool false)) false fr m c k = jl p fr m c k := by by_cases h : p <;> simp [gC, gE, gv, jl, h]
end
theorem nv {T : Nat -> Option fg} {d : Option Nat} {op : qH} {t : Nat} {w : Bool} {l : List aF} {fr : Fr} {m : Mem} :
  kq T (⟨d, op, some (t, w)⟩ :: l) fr m = gE (fr.get t) w (kq T (⟨d, op, none⟩ :: l) fr m) (kq T l (fr.put d .undef) m) := by
 cases h : fr.get t
 case bool b => rw [Ch h]; rfl
 case undef =>
  refine bV fun r => ?_
  rw [dP];simp only [et, aG, h, gE];exact dP.symm
 all_goals
  refine bV fun r => ?_
  rw [dP];simp only [et, aG, h, reduceCtorEq, exists_const, gE]
theorem F3 {T : Nat -> Option fg} {d : Option Nat} {op : iR} {t : Nat} {w : Bool} {l : List aF} {fr : Fr} {m : Mem} :
  kq T (⟨d, .val op, some (t, w)⟩ :: l) fr m = gV (fr.get t) w m (ap fr.eval op m) (fun v m => kq T l (fr.put d v) m) := by rw [nv, tM]; rfl
noncomputable def qS (T : Nat -> Option fg) (f : EV) (args : List EV) (m : Mem) : Option Fin := match f with
 | .func g a c => run T g (a ++ args ++ c) m
 | _ => none
theorem qR {T : Nat -> Option fg} {g : Nat} {a c args : List EV} {m : Mem} : qS T (.func g a c) args m = run T g (a ++ args ++ c) m := rfl
theorem o2 {T : Nat -> Option fg} {d : Option Nat} {x : aD} {args : List aD} {l : List aF} {fr : Fr} {m : Mem} :
  kq T (⟨d, .call x args, none⟩ :: l) fr m = lu (qS T (fr.eval x) (args.map fr.eval) m) fr fun v m => kq T l (fr.put d v) m := by
 refine bV fun r => ?_
 rw [dP];simp only [et, aG]
 cases hx : fr.eval x
 case func g a c =>
  simp only [dy, qS]
  constructor
  ·rintro ⟨k, h⟩
   cases hc : aC T k g (a ++ args.map fr.eval ++ c) m with
   | none => rw [hc] at h; cases h
   | some q =>
    rw [jF.2 ⟨k, hc⟩];simp only [hc] at h
    cases q with
    | ret v m1 => exact dP.2 ⟨k, h⟩
    | dZ v m1 => exact h
  ·intro h
   cases hc : run T g (a ++ args.map fr.eval ++ c) m with
   | none => rw [hc] at h; cases h
   | some q =>
    obtain ⟨k1, h1⟩ := jF.1 hc
    rw [hc] at h
    cases q with
    | ret v m1 =>
     simp only [lu] at h;obtain ⟨k2, h2⟩ := dP.1 h
     refine ⟨max k1 k2, ?_⟩
     have e1 := tW _ _ _ (Nat.le_max_left k1 k2) h1
     have e2 := wD _ _ _ (Nat.le_max_right k1 k2) h2
     simp only at e1 e2
     rw [e1]; exact e2
    | dZ v m1 => exact ⟨k1, by rw [h1]; exact h⟩
 all_goals simp [dy, qS, lu]
theorem zF {T : Nat -> Option fg} {d : Option Nat} {x : aD} {args : List aD} {t : Nat} {w : Bool} {l : List aF} {fr : Fr} {m : Mem} :
  kq T (⟨d, .call x args, some (t, w)⟩ :: l) fr m = gC (fr.get t) w fr m (qS T (fr.eval x) (args.map fr.eval) m) (fun v m => kq T l (fr.put d v) m) := by rw [nv, o2]; rfl
def im (c a b : EV) (m : Mem) : Option R1 := match c with
 | .bool t => some (.val (bif t then a else b) m)
 | _ => none
theorem C6 {ρ : aD -> EV} {c x y : aD} {m : Mem} : ap ρ (.pick c x y) m = im (ρ c) (ρ x) (ρ y) m := by
 simp only [ap]; unfold im; cases ρ c <;> rfl
section
variable {p q r : Prop} {a b : EV} {m : Mem} {c d : Bool}
theorem IP : im (bo p) (gv p (bo q)) (.bool false) m = some (.val (bo (p /\ q)) m) := by by_cases h : p <;> by_cases h' : q <;> simp [im, gv, bo, h, h']
theorem Cd : im (bo p) (gv p (.bool true)) (.bool false) m = some (.val (bo p) m) := by by_cases h : p <;> simp [im, gv, bo, h]
theorem Ce : im (bo p) (gv p (.bool false)) (.bool false) m = some (.val (.bool false) m) := by by_cases h : p <;> simp [im, gv, bo, h]
theorem Ma (hr : r = ¬ p) : im (bo p) (.bool true) (gv r (bo q)) m = some (.val (bo (p \/ q)) m) := by subst hr; by_cases h : p <;> by_cases h' : q <;> simp [im, gv, bo, h, h']
theorem FN (hr : r = ¬ p) : im (bo p) (.bool true) (gv r (.bool true)) m = some (.val (.bool true) m) := by subst hr; by_cases h : p <;> simp [im, gv, bo, h]
theorem FO (hr : r = ¬ p) : im (bo p) (.bool true) (gv r (.bool false)) m = some (.val (bo p) m) := by subst hr; by_cases h : p <;> simp [im, gv, bo, h]
theorem FP : im (bo p) (bo q) (.bool false) m = some (.val (bo (p /\ q)) m) := by by_cases h : p <;> by_cases h' : q <;> simp [im, bo, h, h']
theorem IN : im (bo p) (.bool true) (bo q) m = some (.val (bo (p \/ q)) m) := by by_cases h : p <;> by_cases h' : q <;> simp [im, bo, h, h']
theorem Pv : im (.bool true) a b m = some (.val a m) := rfl
theorem Pw : im (.bool false) a b m = some (.val b m) := rfl
end
theorem E5 {p : Prop} : uF .not (bo p) = some (bo (¬ p)) := by by_cases h : p <;> simp [uF, bo, h]
theorem Qu {p q : Prop} : cL (.ax 0) (bo p) (bo q) = some (@decide (p = q) (Classical.propDecidable _)) := by by_cases h : p <;> by_cases h' : q <;> simp [cL, ca, bo, h, h']
theorem NR {p : Prop} : cL (.ax 0) (bo p) (.bool true) = some (@decide p (Classical.propDecidable _)) := by by_cases h : p <;> simp [cL, ca, bo, h]
theorem NS {p : Prop} : cL (.ax 0) (bo p) (.bool false) = some (@decide (¬ p) (Classical.propDecidable _)) := by by_cases h : p <;> simp [cL, ca, bo, h]
theorem NO {p : Prop} : cL (.ax 0) (.bool true) (bo p) = some (@decide p (Classical.propDecidable _)) := by by_cases h : p <;> simp [cL, ca, bo, h]
theorem NQ {p : Prop} : cL (.ax 0) (.bool false) (bo p) = some (@decide (¬ p) (Classical.propDecidable _)) := by by_cases h : p <;> simp [cL, ca, bo, h]
theorem S0 : cL (.ax 0) (.bool true) (.bool true) = some true := rfl
theorem Tb : cL (.ax 0) (.bool false) (.bool false) = some true := rfl
theorem S1 : cL (.ax 0) (.bool true) (.bool false) = some false := rfl
theorem S9 : cL (.ax 0) (.bool false) (.bool true) = some false := rfl
theorem HP : uF .not (.bool true) = some (.bool false) := rfl
theorem HQ : uF .not (.bool false) = some (.bool true) := rfl
theorem Qt {a b : List UInt8} : cL (.ax 2) (.str a) (.str b) = some (decide (a = b)) := by simp only [cL, ca, cd, cond_true, dh]
theorem H2 {p : Prop} {a b : Option Out} {k : Fr -> Mem -> Option Out} : ik (iF p a b) k = iF p (ik a k) (ik b k) := by unfold iF; split <;> rfl
theorem Jn {id : Nat} {p : Prop} {a b : Option Out} : lb id (iF p a b) = iF p (lb id a) (lb id b) := by unfold iF; split <;> rfl
theorem H0 {p : Prop} {a b : Option R1} {k : EV -> Mem -> Option Out} : dY (iF p a b) k = iF p (dY a k) (dY b k) := by unfold iF; split <;> rfl
theorem H4 {p : Prop} {a b : Option Fin} {fr : Fr} {k : EV -> Mem -> Option Out} : lu (iF p a b) fr k = iF p (lu a fr k) (lu b fr k) := by unfold iF; split <;> rfl
theorem L7 {rs : List jd} {p : Prop} {a b : Option Out} : qT rs (iF p a b) = iF p (qT rs a) (qT rs b) := by unfold iF; split <;> rfl
theorem D5 {T : Nat -> Option fg} {f : Nat} {F : ar} (hf : T f = some (.go F)) {args : List EV} {m : Mem} (hn : args.length <= F.ntmps) : run T f args m = qT F.results (exec T F.body (ag args 0 oE) m) := by
 rw [Ix hf hn, D7]; unfold oE; rw [uY]
theorem aA {n : Nat} {k : IntKind} {i : Nat} (h : i < n) : idx n (.int k (i : Int)) = some i := by
 have : (i + 1).ble n = true := lJ h
 show (bif (i + 1).ble n then some i else none) = _
 rw [this]; rfl
theorem JD {n : Nat} {k : IntKind} (h : 0 < n) : idx n (.int k 0) = some 0 := aA (i := 0) h
theorem gb {d n : Nat} : aw none d n = some d := rfl
theorem jC {d n i : Nat} {k : IntKind} (h : i <= n) : aw (some (.int k (i : Int))) d n = some i := by
 show (bif i.ble n then some i else none) = _
 rw [lJ h]; rfl
theorem JE (n : Int) : IntKind.i64.wrap n = if n % 18446744073709551616 >= 9223372036854775808 then n % 18446744073709551616 - 18446744073709551616 else n % 18446744073709551616 := by
 have e : IntKind.i64.wrap n = if (true && decide (n % 18446744073709551616 >= 9223372036854775808)) = true then n % 18446744073709551616 - 18446744073709551616 else n % 18446744073709551616 := rfl
 rw [e]; simp only [Bool.true_and, decide_eq_true_eq]
theorem LC (n : Int) : IntKind.u8.wrap n = n % 256 := by
 have e : IntKind.u8.wrap n = if (false && decide (n % 256 >= 128)) = true then n % 256 - 256 else n % 256 := rfl
 rw [e]; simp
theorem wrap_i64 {n : Int} (h1 : -9223372036854775808 <= n) (h2 : n < 9223372036854775808) : IntKind.i64.wrap n = n := by
 rw [JE]; split <;> omega
theorem told {T : Nat -> Option fg} {c : au} {fr : Fr} {m : Mem} {X : Option Out} (hX : exec T c fr m = X) {α : Type} {o : α -> Out} {Q : α -> Prop} (h : ∃ x, exec T c fr m = some (o x) /\ Q x) : ∃ x, X = some (o x) /\ Q x := by
 rw [hX] at h; exact h
end
section
inductive Bt where
 | leaf
 | node (k : Nat) (e : fg) (l r : Bt)
def Bt.find : Bt -> Nat -> Option fg
 | .leaf, _ => none
 | .node k e l r, f => bif f.beq k then some e else bif f.blt k then l.find f else r.find f
def Bt.XD (Q : Nat -> fg -> Prop) : Bt -> Prop
 | .leaf => True
 | .node k e l r => Q k e /\ l.XD Q /\ r.XD Q
theorem Bt.sZ {Q : Nat -> fg -> Prop} : ∀ {t : Bt}, t.XD Q -> ∀ f e, t.find f = some e -> Q f e
 | .leaf, _, f, e, h => by simp [Bt.find] at h
 | .node k x l r, ⟨h0, hl, hr⟩, f, e, h => by
  simp only [Bt.find] at h
  cases hk : f.beq k with
  | true =>
   rw [aB hk];simp only [hk, cond_true, aQ] at h;subst h; exact h0
  | false =>
   simp only [hk, cond_false] at h
   cases hb : f.blt k <;> simp only [hb, cond_true, cond_false] at h
   ·exact Bt.sZ hr f e h
   ·exact Bt.sZ hl f e h
def T7 : List EV -> Option EV
 | [.int .u64 (.ofNat x), .int .u64 (.ofNat y), .int .u64 (.ofNat c)] => bif c.ble 1 then some (.tuple [.int .u64 (.ofNat ((x + y + c) % 18446744073709551616)), .int .u64 (.ofNat ((x + y + c) / 18446744073709551616))]) else none
 | _ => none
def T6 : List EV -> Option EV
 | [.str s, .int .u8 c] => some (.int .i64 (Go.Lib.countByte s c.toNat.toUInt8))
 | _ => none
def O9 : List EV -> Option EV
 | [.str s, .int .u8 c] => some (.int .i64 (Go.Lib.indexByte s c.toNat.toUInt8))
 | _ => none
def isTrue : Option Fin -> Bool
 | some (.ret (.bool true) _) => true
 | _ => false
theorem GA {r : Option Fin} (h : isTrue r = true) : ∃ m, r = some (.ret (.bool true) m) := by
 unfold isTrue at h
 split at h
 ·exact ⟨_, rfl⟩
 ·cases h
def DT : List EV -> Option EV
 | [] => some (.bool true)
 | _ => none
theorem Iw {T : Nat -> Option fg} {f : Nat} (hf : T f = some (.pure DT)) {m : Mem} : run T f [] m = some (.ret (.bool true) m) := by rw [run_pure hf]; rfl
end
section
def nC : Go.Shelf.Ren := ⟨fun | 171 => 31 | 243 => 42 | 246 => 55 | 283 => 63 | 284 => 64 | 285 => 65 | 286 => 66 | 129 => 71 | 317 => 70 | 318 => 72 | 319 => 73 | 320 => 74 | 337 => 75 | 338 => 76 | n => n, fun | 3 => 3 | 9 => 9 | 2 => 2 | 4 => 4 | 171 => 78 | 0 => 0 | 53 => 79 | 37 => 59 | 5 => 5 | 173 => 82 | 212 => 89 | 51 => 90 | 20 => 20 | 213 => 91 | 46 => 92 | 232 => 95 | 233 => 96 | n => n, fun | 17 => 2 | 18 => 4 | 19 => 5 | n => n⟩
theorem MB : Go.Proofs.LaysM.n171 Tryd.prog nC where
 mixed := by kernel_rfl
 f129 := Tryd.func71.trans (congrArg some (by kernel_rfl))
 f171 := Tryd.func31.trans (congrArg some (by kernel_rfl))
 f243 := Tryd.func42.trans (congrArg some (by kernel_rfl))
 f246 := Tryd.func55.trans (congrArg some (by kernel_rfl))
 f283 := Tryd.func63.trans (congrArg some (by kernel_rfl))
 f284 := Tryd.func64.trans (congrArg some (by kernel_rfl))
 f285 := Tryd.func65.trans (congrArg some (by kernel_rfl))
 f286 := Tryd.func66.trans (congrArg some (by kernel_rfl))
 f317 := Tryd.func70.trans (congrArg some (by kernel_rfl))
 f318 := Tryd.func72.trans (congrArg some (by kernel_rfl))
 f319 := Tryd.func73.trans (congrArg some (by kernel_rfl))
 f320 := Tryd.func74.trans (congrArg some (by kernel_rfl))
 f337 := Tryd.func75.trans (congrArg some (by kernel_rfl))
 f338 := Tryd.func76.trans (congrArg some (by kernel_rfl))
 t0 := Tryd.underlying0
 a0 := Tryd.isAgg0
 z0 := Tryd.sizeOf0
 v0 := Tryd.zeroValue0
 t2 := Tryd.underlying2
 a2 := Tryd.isAgg2
 z2 := Tryd.sizeOf2
 v2 := Tryd.zeroValue2
 t3 := Tryd.underlying3
 a3 := Tryd.isAgg3
 z3 := Tryd.sizeOf3
 v3 := Tryd.zeroValue3
 t4 := Tryd.underlying4
 a4 := Tryd.isAgg4
 z4 := Tryd.sizeOf4
 v4 := Tryd.zeroValue4
 t5 := Tryd.underlying5
 a5 := Tryd.isAgg5
 z5 := Tryd.sizeOf5
 v5 := Tryd.zeroValue5
 t9 := Tryd.underlying9
 a9 := Tryd.isAgg9
 z9 := Tryd.sizeOf9
 v9 := Tryd.zeroValue9
 t20 := Tryd.underlying20
 a20 := Tryd.isAgg20
 z20 := Tryd.sizeOf20
 v20 := Tryd.zeroValue20
 t37 := Tryd.underlying59
 a37 := Tryd.isAgg59
 z37 := Tryd.sizeOf59
 v37 := Tryd.zeroValue59
 t46 := Tryd.underlying92
 a46 := Tryd.isAgg92
 z46 := Tryd.sizeOf92
 v46 := Tryd.zeroValue92
 t51 := Tryd.underlying90
 a51 := Tryd.isAgg90
 z51 := Tryd.sizeOf90
 v51 := Tryd.zeroValue90
 t53 := Tryd.underlying79
 a53 := Tryd.isAgg79
 z53 := Tryd.sizeOf79
 v53 := Tryd.zeroValue79
 t171 := Tryd.underlying78
 a171 := Tryd.isAgg78
 z171 := Tryd.sizeOf78
 v171 := Tryd.zeroValue78
 t173 := Tryd.underlying82
 a173 := Tryd.isAgg82
 z173 := Tryd.sizeOf82
 v173 := Tryd.zeroValue82
 t212 := Tryd.underlying89
 a212 := Tryd.isAgg89
 z212 := Tryd.sizeOf89
 v212 := Tryd.zeroValue89
 t213 := Tryd.underlying91
 a213 := Tryd.isAgg91
 z213 := Tryd.sizeOf91
 t232 := Tryd.underlying95
 a232 := Tryd.isAgg95
 z232 := Tryd.sizeOf95
 v232 := Tryd.zeroValue95
 t233 := Tryd.underlying96
 a233 := Tryd.isAgg96
 z233 := Tryd.sizeOf96
 v233 := Tryd.zeroValue96
 g17 := by kernel_rfl
 g18 := by kernel_rfl
 g19 := by kernel_rfl
 i0 := by kernel_rfl
 i2 := by kernel_rfl
 i3 := by kernel_rfl
 i4 := by kernel_rfl
 i5 := by kernel_rfl
 i9 := by kernel_rfl
 i20 := by kernel_rfl
 i37 := by kernel_rfl
 i46 := by kernel_rfl
 i51 := by kernel_rfl
 i53 := by kernel_rfl
 i171 := by kernel_rfl
 i173 := by kernel_rfl
 i212 := by kernel_rfl
 i232 := by kernel_rfl
 i233 := by kernel_rfl
 m17 := by kernel_rfl
 m18 := by kernel_rfl
 m19 := by kernel_rfl
theorem PL : nC.f 171 = 31 := rfl
theorem PM : Tryd.prog.funcs[(31 : Nat)]? = some Tryd.f31 := Tryd.func31
abbrev pO : Nat := 2
theorem Pd : Tryd.prog.globalNamed "internal/strconv.uint64pow10" = some pO := by kernel_rfl
theorem y9 : tabl pO = some Go.Lib.pow10Tab := rfl
end
section
def jR : Go.Shelf.Ren := ⟨fun | 156 => 33 | 165 => 44 | 166 => 45 | 169 => 46 | 240 => 56 | 241 => 57 | 276 => 67 | 277 => 68 | n => n, fun | 31 => 36 | 9 => 9 | 3 => 3 | 4 => 4 | 0 => 0 | 20 => 20 | 72 => 61 | 76 => 65 | 70 => 58 | 37 => 59 | 75 => 64 | 127 => 75 | 164 => 84 | 5 => 5 | 80 => 67 | n => n, fun | n => n⟩
theorem Ek : Go.Proofs.Lays.n156 Tryd.prog jR where
 mixed := by kernel_rfl
 f156 := Tryd.func33.trans (congrArg some (by kernel_rfl))
 f165 := Tryd.func44.trans (congrArg some (by kernel_rfl))
 f166 := Tryd.func45.trans (congrArg some (by kernel_rfl))
 f169 := Tryd.func46.trans (congrArg some (by kernel_rfl))
 f240 := Tryd.func56.trans (congrArg some (by kernel_rfl))
 f241 := Tryd.func57.trans (congrArg some (by kernel_rfl))
 f276 := Tryd.func67.trans (congrArg some (by kernel_rfl))
 f277 := Tryd.func68.trans (congrArg some (by kernel_rfl))
 t0 := Tryd.underlying0
 a0 := Tryd.isAgg0
 z0 := Tryd.sizeOf0
 v0 := Tryd.zeroValue0
 t3 := Tryd.underlying3
 a3 := Tryd.isAgg3
 z3 := Tryd.sizeOf3
 v3 := Tryd.zeroValue3
 t4 := Tryd.underlying4
 a4 := Tryd.isAgg4
 z4 := Tryd.sizeOf4
 v4 := Tryd.zeroValue4
 t9 := Tryd.underlying9
 a9 := Tryd.isAgg9
 z9 := Tryd.sizeOf9
 v9 := Tryd.zeroValue9
 t20 := Tryd.underlying20
 a20 := Tryd.isAgg20
 z20 := Tryd.sizeOf20
 v20 := Tryd.zeroValue20
 t31 := Tryd.underlying36
 a31 := Tryd.isAgg36
 z31 := Tryd.sizeOf36
 v31 := Tryd.zeroValue36
 t37 := Tryd.underlying59
 a37 := Tryd.isAgg59
 z37 := Tryd.sizeOf59
 v37 := Tryd.zeroValue59
 t70 := Tryd.underlying58
 a70 := Tryd.isAgg58
 z70 := Tryd.sizeOf58
 v70 := Tryd.zeroValue58
 t72 := Tryd.underlying61
 a72 := Tryd.isAgg61
 z72 := Tryd.sizeOf61
 v72 := Tryd.zeroValue61
 t75 := Tryd.underlying64
 a75 := Tryd.isAgg64
 z75 := Tryd.sizeOf64
 v75 := Tryd.zeroValue64
 t76 := Tryd.underlying65
 a76 := Tryd.isAgg65
 z76 := Tryd.sizeOf65
 v76 := Tryd.zeroValue65
 t127 := Tryd.underlying75
 a127 := Tryd.isAgg75
 z127 := Tryd.sizeOf75
 v127 := Tryd.zeroValue75
 t164 := Tryd.underlying84
 a164 := Tryd.isAgg84
 z164 := Tryd.sizeOf84
 v164 := Tryd.zeroValue84
theorem Av : Go.Proofs.Builder.Extra Tryd.prog jR where
 sizeBuilder := by kernel_rfl
 liesBuilder := by kernel_rfl
 t5 := Tryd.underlying5
 a5 := Tryd.isAgg5
 z5 := Tryd.sizeOf5
 v5 := Tryd.zeroValue5
 infoByte := by kernel_rfl
 cellsByte := by kernel_rfl
 sizeByte := by kernel_rfl
 neB5 := by decide
theorem PJ : Tryd.prog.funcs[(33 : Nat)]? = some Tryd.f33 := Tryd.func33
theorem PI : jR.f 156 = 33 := rfl
end
section
class Has (T : Nat -> Option fg) (f : Nat) (e : outParam fg) : Prop where
 has : T f = some e
def nb (n i : Nat) : Nat := n + i
def ext (m : Mem) (xs : List cY) : Mem := xs.foldl Mem.new m
theorem I7 {m : Mem} {x : cY} : m.new x = ext m [x] := rfl
theorem NH {m : Mem} {xs ys : List cY} : ext (ext m xs) ys = ext m (xs ++ ys) := by unfold ext; rw [List.foldl_append]
theorem rN {n i j : Nat} : nb (nb n i) j = nb n (i + j) := Nat.add_assoc n i j
theorem b8 {m : Mem} {xs : List cY} : (ext m xs).next = nb m.next xs.length := by
 unfold ext nb
 induction xs generalizing m with
 | nil => rfl
 | cons x xs ih => rw [List.foldl_cons, ih]; show m.next + 1 + _ = _; rw [List.length_cons]; omega
theorem cG {m : Mem} {b : Nat} {x : cY} : (m.set b x).next = m.next := rfl
theorem fI {m : Mem} {x : cY} : (m.new x).next = m.next + 1 := rfl
theorem dv {m : Mem} {x : cY} {b : Nat} : (m.new x).get b = if b = m.next then x else m.get b := by
 unfold Mem.get Mem.new; simp only; rw [Tr.ba]; split <;> rfl
theorem ba {m : Mem} {x : cY} {b c : Nat} : (m.set c x).get b = if b = c then x else m.get b := by
 unfold Mem.get Mem.set; simp only; rw [Tr.ba]; split <;> rfl
theorem fy {m : Mem} {x : cY} {b : Nat} : (m.set b x).get b = x := by rw [ba, if_pos rfl]
theorem bz {m : Mem} {x : cY} {b c : Nat} (h : b ≠ c) : (m.set c x).get b = m.get b := by rw [ba, if_neg h]
theorem cC {m : Mem} {xs : List cY} {b : Nat} (h : b < m.next) : (ext m xs).get b = m.get b := by
 unfold ext
 induction xs generalizing m with
 | nil => rfl
 | cons x xs ih => rw [List.foldl_cons, ih (by rw [fI]; omega), dv, if_neg (by omega)]
theorem bS {m : Mem} {xs : List cY} {n i : Nat} (hn : m.next = n) (h : i < xs.length) : (ext m xs).get (nb n i) = xs[i]?.getD .dead := by
 subst hn;unfold ext nb
 induction xs generalizing m i with
 | nil => simp at h
 | cons x xs ih =>
  rw [List.foldl_cons]
  cases i with
  | zero =>
   have := cC (m := m.new x) (xs := xs) (b := m.next) (by rw [fI]; omega)
   unfold ext at this;rw [Nat.add_zero, this, dv, if_pos rfl]; rfl
  | succ i =>
   have := ih (m := m.new x) (i := i) (by simpa using h)
   rw [fI, show m.next + 1 + i = m.next + (i + 1) by omega] at this;rw [this]; rfl
def O8 (m m' : Mem) : Prop := ∀ b, b < m.next -> m'.get b = m.get b
def Vu (x : cY) (agg : Option Nat) (off : Nat) : Option EV := match x with
 | .cells cs _ _ _ => partOf agg cs off
 | _ => none
theorem Gn {m : Mem} {agg : Option Nat} {b off : Nat} : m.load agg (.ptr b off) = Vu (m.get b) agg off := by
 simp only [Mem.load, Vu]; cases m.get b <;> rfl
theorem Gu {cs : List EV} {e t : Nat} {ro : Bool} {agg : Option Nat} {off : Nat} : Vu (.cells cs e t ro) agg off = partOf agg cs off := rfl
theorem FV {cs : List EV} {off : Nat} : partOf none cs off = cs[off]? := rfl
theorem FU {cs : List EV} {off n : Nat} (h : off + n <= cs.length) : partOf (some n) cs off = some (.agg ((cs.drop off).take n)) := by
 show (bif (off + n).ble cs.length then some (EV.agg ((cs.drop off).take n)) else none) = _
 rw [lJ h]; rfl
def Ug (m : Mem) (size b off : Nat) (vs : Option (List EV)) : Option Mem := match vs with
 | some vs => bif vs.length.beq size then m.write b off vs else none
 | none => none
theorem BL {m : Mem} {size b off : Nat} {x : EV} : m.store size (.ptr b off) x = Ug m size b off x.cells := by
 simp only [Mem.store, Ug]; cases x.cells <;> rfl
theorem Ih {m : Mem} {size b off : Nat} {vs : List EV} (h : vs.length = size) : Ug m size b off (some vs) = m.write b off vs := by
 show (bif vs.length.beq size then m.write b off vs else none) = _
 rw [h, cd]; rfl
def Rk (m : Mem) (b off : Nat) (vs : List EV) (x : cY) : Option Mem := match x with
 | .cells cs esz elem ro => bif ro then none else (eG cs off vs).map fun cs => m.set b (.cells cs esz elem ro)
 | _ => none
theorem HK {m : Mem} {b off : Nat} {vs : List EV} : m.write b off vs = Rk m b off vs (m.get b) := by simp only [Mem.write, Rk]; cases m.get b <;> rfl
theorem EY {m : Mem} {b off : Nat} {vs cs : List EV} {e t : Nat} (h : off + vs.length <= cs.length) : Rk m b off vs (.cells cs e t false) = some (m.set b (.cells (cs.take off ++ vs ++ cs.drop (off + vs.length)) e t false)) := by
 show (bif false then none else (eG cs off vs).map fun cs => m.set b (.cells cs e t false)) = _
 unfold eG; rw [lJ h]; rfl
theorem Hi {k : IntKind} {n : Int} : (EV.int k n).cells = some [.int k n] := rfl
theorem Du {b : Bool} : (EV.bool b).cells = some [.bool b] := rfl
theorem KP {p : Prop} : (bo p).cells = some [bo p] := rfl
theorem He {s : List UInt8} : (EV.str s).cells = some [.str s] := rfl
theorem yC : EV.bb.cells = some [.bb] := rfl
theorem Hg {b o : Nat} : (EV.ptr b o).cells = some [.ptr b o] := rfl
theorem uM : EV.aa.cells = some [.aa] := rfl
theorem AU {b o l : Nat} {c : Option Nat} : (EV.slice b o l c).cells = some [.slice b o l c] := rfl
theorem yD : EV.aS.cells = some [.aS] := rfl
theorem Hh {b : Nat} : (EV.map b).cells = some [.map b] := rfl
theorem vN : EV.aR.cells = some [.aR] := rfl
theorem Dr {f : Nat} {x y : List EV} : (EV.func f x y).cells = some [.func f x y] := rfl
theorem uN : EV.aq.cells = some [.aq] := rfl
theorem AV {t : Nat} {v : EV} : (EV.iface t v).cells = some [.iface t v] := rfl
theorem Hj {cs : List EV} : (EV.agg cs).cells = some cs := rfl
def EG (cs : List EV) (off size : Nat) (vs : Option (List EV)) (r : List (Nat × Nat × EV)) : Option (List EV) := match vs with
 | some vs => bif vs.length.beq size then match eG cs off vs with
   | some cs => cU cs r
   | none => none
  else none
 | none => none
theorem uB {cs : List EV} : cU cs [] = some cs := rfl
theorem wY {cs : List EV} {off size : Nat} {v : EV} {r : List (Nat × Nat × EV)} : cU cs ((off, size, v) :: r) = EG cs off size v.cells r := by simp only [EG, cU]; cases v.cells <;> rfl
theorem uC {cs : List EV} {off size : Nat} {vs : List EV} {r : List (Nat × Nat × EV)} (h : vs.length = size) (h2 : off + vs.length <= cs.length) : EG cs off size (some vs) r = cU (cs.take off ++ vs ++ cs.drop (off + vs.length)) r := by
 show (bif vs.length.beq size then match eG cs off vs with | some cs => cU cs r | none => none else none) = _
 unfold eG; rw [h, cd, lJ (by rw [<- h]; exact h2)]; rfl
def QB (elem : Nat) (m : Mem) (vs : Option (List EV)) : Option R1 := match vs with
 | some cs => some (.val (.ptr (nb m.next 0) 0) (ext m [.cells cs cs.length elem false]))
 | none => none
theorem G4 {ρ : aD -> EV} {m : Mem} {elem : Nat} {x : aD} : ap ρ (.box elem x) m = QB elem m (ρ x).cells := by
 simp only [ap]; unfold QB; cases (ρ x).cells <;> rfl
theorem Hm {elem : Nat} {m : Mem} {cs : List EV} : QB elem m (some cs) = some (.val (.ptr (nb m.next 0) 0) (ext m [.cells cs cs.length elem false])) := rfl
theorem AJ {ρ : aD -> EV} {m : Mem} {elem : Nat} {zero : List EV} : ap ρ (.alloc elem zero) m = some (.val (.ptr (nb m.next 0) 0) (ext m [.cells zero zero.length elem false])) := rfl
theorem Ax {ρ : aD -> EV} {m : Mem} : ap ρ .nz m = some (.val (.map (nb m.next 0)) (ext m [.map []])) := rfl
theorem IL {α : Type} (x y : α) (p : List Bool) : ∀ t : Tr α, (t.put x p).put y p = t.put y p := by
 induction p with
 | nil => intro t; cases t <;> rfl
 | cons b p ih => intro t; cases t <;> cases b <;> simp [Tr.put, ih]
theorem put_comm {α : Type} (x y : α) (p : List Bool) : ∀ (q : List Bool) (t : Tr α), p ≠ q -> (t.put x p).put y q = (t.put y q).put x p := by
 induction p with
 | nil =>
  intro q t h
  cases q with
  | nil => exact absurd rfl h
  | cons c q => cases t <;> cases c <;> simp [Tr.put]
 | cons b p ih =>
  intro q t h
  cases q with
  | nil => cases t <;> cases b <;> simp [Tr.put]
  | cons c q =>
   by_cases MY : b = c
   ·subst MY
    have ZM : p ≠ q := fun e => h (by rw [e])
    cases t <;> cases b <;> simp [Tr.put, ih _ _ ZM]
   ·cases t <;> cases b <;> cases c <;> simp [Tr.put] at MY ⊢
theorem Mt {m : Mem} {b : Nat} {x y : cY} (h : b < m.next) : (m.new y).set b x = (m.set b x).new y := by
 unfold Mem.set Mem.new Tr.set; simp only; rw [put_comm _ _ _ _ _ (fun e => by have := zA e; omega)]
theorem xI {m : Mem} {x y : cY} : (m.new y).set m.next x = m.new x := by
 unfold Mem.set Mem.new Tr.set; simp only; rw [IL]
theorem rF {m : Mem} {xs : List cY} {b : Nat} {x : cY} (h : b < m.next) : (ext m xs).set b x = ext (m.set b x) xs := by
 unfold ext
 induction xs generalizing m with
 | nil => rfl
 | cons y ys ih => rw [List.foldl_cons, ih (by rw [fI]; omega), Mt h]; rfl
theorem tB {m : Mem} {xs : List cY} {n i : Nat} {x : cY} (hn : m.next = n) (h : i < xs.length) : (ext m xs).set (nb n i) x = ext m (xs.set i x) := by
 subst hn
 induction xs generalizing m i with
 | nil => simp at h
 | cons y ys ih =>
  cases i with
  | zero =>
   have := rF (m := m.new y) (xs := ys) (b := m.next) (x := x) (by rw [fI]; omega)
   rw [xI] at this;exact this
  | succ i =>
   have := ih (m := m.new y) (i := i) (by simpa using h)
   rw [fI] at this;unfold nb at this ⊢
   rw [show m.next + (i + 1) = m.next + 1 + i by omega];exact this
open Classical in
noncomputable def Vt (T : Nat -> Option fg) (f : Nat) : List EV -> Mem -> Option EV := fun args m => match run T f args m with
 | some (.ret v m') => if Flat v = true /\ O8 m m' then some v else none
 | _ => none
end
section
theorem LP (x : aD) : bM (.ab x) = 0 := rfl
theorem FB (elem : Nat) (zero : List EV) : bM (.alloc elem zero) = 1 := rfl
theorem LW (elem : Nat) (x : aD) : bM (.box elem x) = 1 := rfl
theorem FA (zero : List EV) (parts : List (Nat × Nat × aD)) : bM (.build zero parts) = 0 := rfl
theorem BW (elem esz len : Nat) (zero : List EV) (parts : List (Nat × aD)) : bM (.aU elem esz len zero parts) = 1 := rfl
theorem Fq (size : Nat) (a x : aD) : bM (.store size a x) = 3 := rfl
theorem Fu (x : aD) : bM (.kn x) = 0 := rfl
theorem LX (op : BinOp) (x y : aD) : bM (.bin op x y) = 0 := rfl
theorem Pm (neg : Bool) (t : mw) (x y : aD) : bM (.eq neg t x y) = 0 := rfl
theorem Pk (op : UnOp) (x : aD) : bM (.un op x) = 0 := rfl
theorem Fw (t : Nat) (x : aD) : bM (.iface t x) = 0 := rfl
theorem Ik (f : Nat) (a c : List aD) : bM (.tX f a c) = 0 := rfl
theorem Fv  : bM (.nz ) = 1 := rfl
theorem zh (elem esz : Nat) (zero : List EV) (len cap : aD) : bM (.gy elem esz zero len cap) = 1 := rfl
theorem Fs (x : aD) (lo hi : Option aD) : bM (.mW x lo hi) = 0 := rfl
theorem Ii (esz : Nat) (x : aD) (lo hi max : Option aD) : bM (.lp esz x lo hi max) = 3 := rfl
theorem Ft (n esz : Nat) (x : aD) (lo hi max : Option aD) : bM (.kU n esz x lo hi max) = 0 := rfl
theorem Fy (off : Nat) (x : aD) : bM (.ak off x) = 0 := rfl
theorem LU (agg : Option Nat) (off : Nat) (x : aD) : bM (.OX agg off x) = 0 := rfl
theorem Fx (esz : Nat) (x i : aD) : bM (.ay esz x i) = 0 := rfl
theorem xz (n esz : Nat) (x i : aD) : bM (.c7 n esz x i) = 0 := rfl
theorem BS (x i : aD) : bM (.cO x i) = 0 := rfl
theorem BT (n esz : Nat) (agg : Option Nat) (x i : aD) : bM (.nF n esz agg x i) = 0 := rfl
theorem BO (kt : Nat) (zero : EV) (ok : Bool) (mp k : aD) : bM (.lookup kt zero ok mp k) = 3 := rfl
theorem BN (kt : Nat) (mp k x : aD) : bM (.kY kt mp k x) = 3 := rfl
theorem BU (kt : Nat) (mp k : aD) : bM (.delete kt mp k) = 3 := rfl
theorem BQ (mp : aD) : bM (.lP mp) = 3 := rfl
theorem zg (t : Nat) (x : aD) : bM (.ly t x) = 0 := rfl
theorem zi (x : aD) (i : Nat) : bM (.extract x i) = 0 := rfl
theorem LS (x : aD) : bM (.len x) = 0 := rfl
theorem BP (x : aD) : bM (.eH x) = 0 := rfl
theorem BR (n : Nat) : bM (.nB n) = 0 := rfl
theorem LV (x : aD) : bM (.cap x) = 0 := rfl
theorem LR (args : List aD) : bM (.max args) = 0 := rfl
theorem LQ (args : List aD) : bM (.min args) = 0 := rfl
theorem BX (elem esz bytes : Nat) (s x : aD) : bM (.append elem esz bytes s x) = 3 := rfl
theorem Io (esz : Nat) (d s : aD) : bM (.copy esz d s) = 3 := rfl
theorem Ij {x y z : aD} : bM (.pick x y z) = 0 := rfl
theorem BV {k : IntKind} {x : aD} : bM (.conv (.int k) x) = 0 := rfl
theorem zk {x : aD} : bM (.conv .same x) = 0 := rfl
theorem xA {e : Nat} {x : aD} : bM (.conv (.bytes e) x) = 1 := rfl
theorem zj {x : aD} : bM (.conv .text x) = 3 := rfl
def bump (m : Mem) (k : Nat) : Mem := ⟨m.next + k, m.kl⟩
theorem mc {m : Mem} {k b : Nat} : (bump m k).get b = m.get b := rfl
theorem oa {m : Mem} {k : Nat} : (bump m k).next = nb m.next k := rfl
theorem It {m : Mem} {k b : Nat} {x : cY} : (bump m k).set b x = bump (m.set b x) k := rfl
theorem Gq {m : Mem} {k : Nat} {agg : Option Nat} {a : EV} : (bump m k).load agg a = m.load agg a := rfl
theorem RD {n i j : Nat} : nb n i < nb n j ↔ i < j := by unfold nb; omega
theorem PD {n i j : Nat} : nb n i = nb n j ↔ i = j := by unfold nb; omega
theorem RF {b n i : Nat} (h : b < n) : b < nb n i := by unfold nb; omega
theorem Am {m : Mem} {xs : List cY} {n i j : Nat} (hn : m.next = nb n j) (h : j <= i) (h2 : i - j < xs.length) : (ext m xs).get (nb n i) = xs[i - j]?.getD .dead := by
 have := bS (m := m) (xs := xs) (n := nb n j) (i := i - j) hn h2
 rw [rN, show j + (i - j) = i by omega] at this; exact this
theorem zp {m : Mem} {xs : List cY} {n i j : Nat} {x : cY} (hn : m.next = nb n j) (h : j <= i) (h2 : i - j < xs.length) : (ext m xs).set (nb n i) x = ext m (xs.set (i - j) x) := by
 have := tB (m := m) (xs := xs) (n := nb n j) (i := i - j) (x := x) hn h2
 rw [rN, show j + (i - j) = i by omega] at this; exact this
theorem p8 {n i : Nat} : n <= nb n i := by unfold nb; omega
mutual
def Told : EV -> Bool
 | .fz t _ els => !(t.beq 0) && rq els
 | .dl _ _ _ _ => false
 | .func _ x y => gX x && gX y
 | .iface _ v => Told v
 | .agg x | .tuple x => gX x
 | _ => true
def gX : List EV -> Bool
 | [] => true
 | v :: x => Told v && gX x
def rq : List (List EV) -> Bool
 | [] => true
 | v :: x => gX v && rq x
end
mutual
theorem kH : ∀ v : EV, Told v = true -> EV.same v v = true
 | .undef, _ | .bb, _ | .aa, _ | .aS, _ | .aR, _ | .aq, _ => rfl
 | .bool b, _ => by cases b <;> rfl
 | .int k n, _ => by
  have h1 : (bf k).beq (bf k) = true := Nat.beq_refl _
  have h2 : mD n n = true := by cases n <;> exact Nat.beq_refl _
  simp only [EV.same, h1, cond_true, h2]
 | .str s, _ => by simp only [EV.same, dh, decide_true]
 | .ptr a i, _ => by simp only [EV.same, Nat.beq_refl, cond_true]
 | .slice a i n c, _ => by
  have h : pQ c c = true := by cases c <;> simp [pQ]
  simp only [EV.same, Nat.beq_refl, cond_true, h]
 | .map a, _ => by simp only [EV.same, Nat.beq_refl]
 | .func f x y, h => by
  simp only [Told, kD] at h;simp only [EV.same, Nat.beq_refl, cond_true, ju x h.1, ju y h.2]
 | .iface t v, h => by simp only [EV.same, Nat.beq_refl, cond_true, kH v (by simpa only [Told] using h)]
 | .agg x, h => by simp only [EV.same, ju x (by simpa only [Told] using h)]
 | .tuple x, h => by simp only [EV.same, ju x (by simpa only [Told] using h)]
 | .fz t e els, h => by
  simp only [Told, kD, Bool.not_eq_true'] at h;simp only [EV.same, h.1, cond_false, Nat.beq_refl, cond_true, rH els h.2]
 | .dl _ _ _ _, h => by simp [Told] at h
theorem ju : ∀ x : List EV, gX x = true -> EV.gO x x = true
 | [], _ => rfl
 | v :: x, h => by
  simp only [gX, kD] at h;simp only [EV.gO, kH v h.1, cond_true, ju x h.2]
theorem rH : ∀ x : List (List EV), rq x = true -> EV.lK x x = true
 | [], _ => rfl
 | v :: x, h => by
  simp only [rq, kD] at h;simp only [EV.lK, ju v h.1, cond_true, rH x h.2]
end
section
variable {T : Nat -> Option fg} {chk : List (Nat × Nat)} {B0 i : Nat} {l : List aF} {fr : Fr} {m : Mem} {sn : List (Nat × Mem)} {se : List Seen} {d : Option Nat}
theorem CZ : exec T (.draw l chk) fr m = ib T chk m.next l 0 fr (bump m l.length) [] [] := rfl
theorem EJ : ib T chk B0 [] i fr m sn se = some (.norm fr m) := dG.2 ⟨0, rfl⟩
def mV (o : Option EV) (k : EV -> Option Out) : Option Out := match o with
 | some v => k v
 | none => none
@[congr] theorem Ol {o o' : Option EV} {k : EV -> Option Out} (h : o = o') : mV o k = mV o' k := by rw [h]
theorem BD {v : EV} {k : EV -> Option Out} : mV (some v) k = k v := rfl
def sX (b : Bool) (o : Option Out) : Option Out := bif b then o else none
@[congr] theorem Q0 {b b' : Bool} {o : Option Out} (h : b = b') : sX b o = sX b' o := by rw [h]
theorem jT {o : Option Out} : sX true o = o := rfl
theorem Dg {op : iR} (h : bM op = 0) : ib T chk B0 (⟨d, .val op, none⟩ :: l) i fr m sn se = dY (ap fr.eval op m) fun v _ => ib T chk B0 l (i + 1) (fr.put d v) m sn se := by
 refine bV fun r => ?_
 rw [dG];simp only [b6, aG, h]
 cases ap fr.eval op m with
 | none => simp [dY]
 | some q => obtain ⟨v, m1⟩ := q; simp only [dY]; exact dG.symm
theorem Df {op : iR} (h : bM op = 1) : ib T chk B0 (⟨d, .val op, none⟩ :: l) i fr m sn se = dY (ap fr.eval op ⟨B0 + i, m.kl⟩) fun v m1 => ib T chk B0 l (i + 1) (fr.put d v) ⟨m.next, m1.kl⟩ sn se := by
 refine bV fun r => ?_
 rw [dG];simp only [b6, aG, h]
 cases ap fr.eval op ⟨B0 + i, m.kl⟩ with
 | none => simp [dY]
 | some q => obtain ⟨v, m1⟩ := q; simp only [dY]; exact dG.symm
theorem yu {op : iR} (h : bM op = 3) : ib T chk B0 (⟨d, .val op, none⟩ :: l) i fr m sn se = dY (ap fr.eval op m) fun v m' => sX (aE chk i m' se) (ib T chk B0 l (i + 1) (fr.put d v) m' ((i, m) :: sn) se) := by
 refine bV fun r => ?_
 rw [dG];simp only [b6, aG, h]
 cases ap fr.eval op m with
 | none => simp [dY]
 | some q =>
  obtain ⟨v, m1⟩ := q
  simp only [dY]
  cases aE chk i m1 se
  ·simp [sX]
  ·simp only [sX, cond_true]; exact dG.symm
def Ll (a : EV) (x y : Option Out) : Option Out := bif wK a then x else y
@[congr] theorem QZ {a a' : EV} {x y : Option Out} (h : a = a') : Ll a x y = Ll a' x y := by rw [h]
theorem MG {b o : Nat} {x y : Option Out} : Ll (.ptr b o) x y = y := rfl
theorem JC {e i k : Nat} {els : List (List EV)} {x y : Option Out} : Ll (.dl e els i k) x y = x := rfl
theorem qq {agg : Option Nat} {a : aD} : ib T chk B0 (⟨d, .val (.load agg a), none⟩ :: l) i fr m sn se = mV (m.load agg (fr.eval a)) fun v => Ll (fr.eval a) (sX (cb chk i m.next sn) (ib T chk B0 l (i + 1) (fr.put d v) m sn se)) (sX (aT chk i agg (fr.eval a) v sn) (ib T chk B0 l (i + 1) (fr.put d v) m sn (⟨i, agg, fr.eval a, v⟩ :: se))) := by
 refine bV fun r => ?_
 rw [dG];simp only [b6, aG, bM]
 cases m.load agg (fr.eval a) with
 | none => simp [mV]
 | some v =>
  simp only [mV, Ll]
  cases wK (fr.eval a)
  ·simp only [cond_false]
   cases aT chk i agg (fr.eval a) v sn
   ·simp [sX]
   ·simp only [sX, cond_true]; exact dG.symm
  ·simp only [cond_true]
   cases cb chk i m.next sn
   ·simp [sX]
   ·simp only [sX, cond_true]; exact dG.symm
def lX (o : Option Fin) (k : EV -> Mem -> Option Out) : Option Out := match o with
 | some (.ret v m) => k v m
 | _ => none
@[congr] theorem Oq {o o' : Option Fin} {k : EV -> Mem -> Option Out} (h : o = o') : lX o k = lX o' k := by rw [h]
theorem Fi {v : EV} {m : Mem} {k : EV -> Mem -> Option Out} : lX (some (.ret v m)) k = k v m := rfl
theorem qt {x : aD} {args : List aD} : ib T chk B0 (⟨d, .call x args, none⟩ :: l) i fr m sn se = lX (qS T (fr.eval x) (args.map fr.eval) m) fun v m' => sX (aE chk i m' se) (ib T chk B0 l (i + 1) (fr.put d v) m' ((i, m) :: sn) se) := by
 refine bV fun r => ?_
 rw [dG];simp only [b6, aG]
 cases hx : fr.eval x
 case func g a c =>
  simp only [dy, qS]
  constructor
  ·rintro ⟨k, h⟩
   cases hc : aC T k g (a ++ args.map fr.eval ++ c) m with
   | none => rw [hc] at h; cases h
   | some q =>
    rw [jF.2 ⟨k, hc⟩];simp only [hc] at h
    cases q with
    | ret v m1 =>
     simp only [lX]
     cases hk : aE chk i m1 se
     ·simp [hk] at h
     ·simp only [hk, cond_true] at h
      simp only [sX, cond_true]; exact dG.2 ⟨k, h⟩
    | dZ v m1 => simp at h
  ·intro h
   cases hc : run T g (a ++ args.map fr.eval ++ c) m with
   | none => rw [hc] at h; cases h
   | some q =>
    obtain ⟨k1, h1⟩ := jF.1 hc
    rw [hc] at h
    cases q with
    | ret v m1 =>
     simp only [lX] at h
     cases hk : aE chk i m1 se
     ·simp [hk, sX] at h
     ·simp only [hk, sX, cond_true] at h
      obtain ⟨k2, h2⟩ := dG.1 h
      refine ⟨max k1 k2, ?_⟩
      have e1 := tW _ _ _ (Nat.le_max_left k1 k2) h1
      have e2 := zU _ _ _ (Nat.le_max_right k1 k2) h2
      simp only at e1 e2
      simp only [e1, hk, cond_true]; exact e2
    | dZ v m1 => cases h
 all_goals simp [dy, qS, lX]
def I4 (i : Nat) (chk : List (Nat × Nat)) : Bool := chk.all fun p => p.1 != i
def Ef (j : Nat) (chk : List (Nat × Nat)) : Bool := chk.all fun p => p.2 != j
theorem Mr : I4 i [] = true := rfl
theorem zI {a b : Nat} : I4 i ((a, b) :: chk) = (a != i && I4 i chk) := rfl
theorem Ms : Ef i [] = true := rfl
theorem zK {a b : Nat} : Ef i ((a, b) :: chk) = (b != i && Ef i chk) := rfl
theorem pW {j : Nat} : ∀ {chk : List (Nat × Nat)}, I4 i chk = true -> aZ i j chk = false
 | [], _ => rfl
 | (a, b) :: chk, h => by
  simp only [zI, kD, bne_iff_ne, ne_eq] at h;simp only [aZ, gf h.1, cond_false];exact pW h.2
theorem pX {j : Nat} : ∀ {chk : List (Nat × Nat)}, Ef j chk = true -> aZ i j chk = false
 | [], _ => rfl
 | (a, b) :: chk, h => by
  simp only [zK, kD, bne_iff_ne, ne_eq] at h;simp only [aZ, gf h.1, cond_false];rw [pX h.2]; cases a.beq i <;> rfl
theorem zm {agg : Option Nat} {a v : EV} (h : I4 i chk = true) : ∀ sn, aT chk i agg a v sn = true
 | [] => rfl
 | (j, m1) :: sn => by simp only [aT, pW h, cond_false]; exact zm h sn
theorem Ec {n : Nat} (h : I4 i chk = true) : ∀ sn, cb chk i n sn = true
 | [] => rfl
 | (j, m1) :: sn => by simp only [cb, pW h, cond_false]; exact Ec h sn
theorem tE {m : Mem} (h : Ef i chk = true) : ∀ se, aE chk i m se = true
 | [] => rfl
 | x :: se => by simp only [aE, pX h, cond_false]; exact tE h se
def Bl (chk : List (Nat × Nat)) (se se' : List Seen) : Prop := ∀ j m, aE chk j m se = aE chk j m se'
def Bk (chk : List (Nat × Nat)) (sn tt : List (Nat × Mem)) : Prop := (∀ i agg a v, aT chk i agg a v sn = aT chk i agg a v tt) /\ ∀ i n, cb chk i n sn = cb chk i n tt
theorem Bl.cons {se se' : List Seen} (h : Bl chk se se') (x : Seen) : Bl chk (x :: se) (x :: se') := fun j m => by simp only [aE, h j m]
theorem Bk.cons {sn tt : List (Nat × Mem)} (h : Bk chk sn tt) (x : Nat × Mem) : Bk chk (x :: sn) (x :: tt) := ⟨fun i agg a v => by obtain ⟨j, m⟩ := x; simp only [aT, h.1 i agg a v], fun i n => by obtain ⟨j, m⟩ := x; simp only [cb, h.2 i n]⟩
theorem sd {call : Call} : ∀ (l : List aF) (i : Nat) (fr : Fr) (m : Mem) (sn tt : List (Nat × Mem)) (se se' : List Seen), Bk chk sn tt -> Bl chk se se' -> b6 call chk B0 l i fr m sn se = b6 call chk B0 l i fr m tt se'
 | [], i, fr, m, sn, tt, se, se', _, _ => rfl
 | o :: r, i, fr, m, sn, tt, se, se', h2, h1 => by
  have ih := fun i fr m sn tt se se' h2 h1 => sd (call := call) r i fr m sn tt se se' h2 h1
  simp only [b6]
  cases aG fr o.guard with
  | none => rfl
  | some b =>
  cases b with
  | false => exact ih _ _ _ _ _ _ _ h2 h1
  | true =>
   simp only
   cases o.op with
   | val op =>
    simp only
    split
    ·cases ap fr.eval op m with
     | none => rfl
     | some q => obtain ⟨v, m1⟩ := q; exact ih _ _ _ _ _ _ _ h2 h1
    ·cases ap fr.eval op ⟨B0 + i, m.kl⟩ with
     | none => rfl
     | some q => obtain ⟨v, m1⟩ := q; exact ih _ _ _ _ _ _ _ h2 h1
    ·split
     ·rename_i agg x _
      cases m.load agg (fr.eval x) with
      | none => rfl
      | some v =>
       simp only [h2.1 i agg (fr.eval x) v, h2.2 i m.next]
       cases wK (fr.eval x)
       ·simp only [cond_false]
        cases aT chk i agg (fr.eval x) v tt
        ·rfl
        ·simp only [cond_true]; exact ih _ _ _ _ _ _ _ h2 (h1.cons _)
       ·simp only [cond_true]
        cases cb chk i m.next tt
        ·rfl
        ·simp only [cond_true]; exact ih _ _ _ _ _ _ _ h2 h1
     ·rfl
    ·cases ap fr.eval op m with
     | none => rfl
     | some q =>
      obtain ⟨v, m1⟩ := q
      simp only [h1 i m1]
      cases aE chk i m1 se'
      ·rfl
      ·simp only [cond_true]; exact ih _ _ _ _ _ _ _ (h2.cons _) h1
   | call f args =>
    simp only
    cases dy call (fr.eval f) (args.map fr.eval) m with
    | none => rfl
    | some q =>
     cases q with
     | ret v m1 =>
      simp only [h1 i m1]
      cases aE chk i m1 se'
      ·rfl
      ·simp only [cond_true]; exact ih _ _ _ _ _ _ _ (h2.cons _) h1
     | dZ v m1 => rfl
   | panic x => rfl
   | defer f x => rfl
theorem AO {tt : List (Nat × Mem)} {se' : List Seen} (h2 : Bk chk sn tt) (h1 : Bl chk se se') : ib T chk B0 l i fr m sn se = ib T chk B0 l i fr m tt se' := by
 unfold ib; congr 1; funext k; exact sd l i fr m sn tt se se' h2 h1
theorem KD {j : Nat} {agg : Option Nat} {a v : EV} (h : I4 j chk = true) : ib T chk B0 l i fr m sn (⟨j, agg, a, v⟩ :: se) = ib T chk B0 l i fr m sn se :=
 AO ⟨fun _ _ _ _ => rfl, fun _ _ => rfl⟩ fun k m => by simp only [aE, pW h, cond_false]
theorem AN {j : Nat} {m1 : Mem} (h : Ef j chk = true) : ib T chk B0 l i fr m ((j, m1) :: sn) se = ib T chk B0 l i fr m sn se :=
 AO ⟨fun i agg a v => by simp only [aT, pX h, cond_false], fun i n => by simp only [cb, pX h, cond_false]⟩ fun _ _ => rfl
theorem xe {agg : Option Nat} {a : aD} (h : I4 i chk = true) : ib T chk B0 (⟨d, .val (.load agg a), none⟩ :: l) i fr m sn se = mV (m.load agg (fr.eval a)) fun v => ib T chk B0 l (i + 1) (fr.put d v) m sn se := by
 rw [qq]; cases m.load agg (fr.eval a) with
 | none => rfl
 | some v => simp only [mV, zm h, Ec h, jT, KD h, Ll]; cases wK (fr.eval a) <;> rfl
theorem G8 {agg : Option Nat} {a : aD} (_h : I4 i chk = false) : ib T chk B0 (⟨d, .val (.load agg a), none⟩ :: l) i fr m sn se = mV (m.load agg (fr.eval a)) fun v => Ll (fr.eval a) (sX (cb chk i m.next sn) (ib T chk B0 l (i + 1) (fr.put d v) m sn se)) (sX (aT chk i agg (fr.eval a) v sn) (ib T chk B0 l (i + 1) (fr.put d v) m sn (⟨i, agg, fr.eval a, v⟩ :: se))) := qq
theorem EI {op : iR} (h : bM op = 3) (h0 : Ef i chk = true) : ib T chk B0 (⟨d, .val op, none⟩ :: l) i fr m sn se = dY (ap fr.eval op m) fun v m' => ib T chk B0 l (i + 1) (fr.put d v) m' sn se := by
 rw [yu h]; cases ap fr.eval op m with
 | none => rfl
 | some q => obtain ⟨v, m1⟩ := q; simp only [dY, tE h0, jT, AN h0]
theorem NU {op : iR} (h : bM op = 3) (Xz : Ef i chk = false) : ib T chk B0 (⟨d, .val op, none⟩ :: l) i fr m sn se = dY (ap fr.eval op m) fun v m' => sX (aE chk i m' se) (ib T chk B0 l (i + 1) (fr.put d v) m' ((i, m) :: sn) se) := yu h
theorem xf {x : aD} {args : List aD} (h0 : Ef i chk = true) : ib T chk B0 (⟨d, .call x args, none⟩ :: l) i fr m sn se = lX (qS T (fr.eval x) (args.map fr.eval) m) fun v m' => ib T chk B0 l (i + 1) (fr.put d v) m' sn se := by
 rw [qt]; cases qS T (fr.eval x) (args.map fr.eval) m with
 | none => rfl
 | some q => cases q with
  | ret v m1 => simp only [lX, tE h0, jT, AN h0]
  | dZ v m1 => rfl
theorem G9 {x : aD} {args : List aD} (Xz : Ef i chk = false) : ib T chk B0 (⟨d, .call x args, none⟩ :: l) i fr m sn se = lX (qS T (fr.eval x) (args.map fr.eval) m) fun v m' => sX (aE chk i m' se) (ib T chk B0 l (i + 1) (fr.put d v) m' ((i, m) :: sn) se) := qt
theorem gA {op : qH} {t : Nat} {w : Bool} : ib T chk B0 (⟨d, op, some (t, w)⟩ :: l) i fr m sn se = gE (fr.get t) w (ib T chk B0 (⟨d, op, none⟩ :: l) i fr m sn se) (ib T chk B0 l (i + 1) (fr.put d .undef) m sn se) := by
 cases h : fr.get t
 case bool b =>
  refine bV fun r => ?_
  rw [dG];simp only [b6, aG, h, gE]
  cases hb : b == w
  ·simp only [cond_false]; exact dG.symm
  ·simp only [cond_true]
   rw [dG];simp only [b6, aG]
 case undef =>
  refine bV fun r => ?_
  rw [dG];simp only [b6, aG, h, gE];exact dG.symm
 all_goals
  refine bV fun r => ?_
  rw [dG];simp only [b6, aG, h, reduceCtorEq, exists_const, gE]
def Pu (o : Option Fin) : Option R1 := match o with
 | some (.ret v m) => some (.val v m)
 | _ => none
theorem ID {v : EV} {m : Mem} : Pu (some (.ret v m)) = some (.val v m) := rfl
theorem H3 {o : Option Fin} {k : EV -> Mem -> Option Out} : lX o k = dY (Pu o) k := by cases o with | none => rfl | some q => cases q <;> rfl
theorem NW {op : iR} {t : Nat} {w : Bool} (h : bM op = 0) : ib T chk B0 (⟨d, .val op, some (t, w)⟩ :: l) i fr m sn se = gV (fr.get t) w m (ap fr.eval op m) fun v _ => ib T chk B0 l (i + 1) (fr.put d v) m sn se := by rw [gA, Dg h]; rfl
theorem NV {op : iR} {t : Nat} {w : Bool} (h : bM op = 1) : ib T chk B0 (⟨d, .val op, some (t, w)⟩ :: l) i fr m sn se = gE (fr.get t) w (dY (ap fr.eval op ⟨B0 + i, m.kl⟩) fun v m1 => ib T chk B0 l (i + 1) (fr.put d v) ⟨m.next, m1.kl⟩ sn se) (ib T chk B0 l (i + 1) (fr.put d .undef) m sn se) := by rw [gA, Df h]
theorem KH {agg : Option Nat} {a : aD} {t : Nat} {w : Bool} (h : I4 i chk = true) : ib T chk B0 (⟨d, .val (.load agg a), some (t, w)⟩ :: l) i fr m sn se = gV (fr.get t) w m (dQ m (m.load agg (fr.eval a))) fun v _ => ib T chk B0 l (i + 1) (fr.put d v) m sn se := by
 rw [gA, xe h]; unfold gV
 cases m.load agg (fr.eval a) <;> rfl
theorem KG {agg : Option Nat} {a : aD} {t : Nat} {w : Bool} (_h : I4 i chk = false) : ib T chk B0 (⟨d, .val (.load agg a), some (t, w)⟩ :: l) i fr m sn se = gE (fr.get t) w (mV (m.load agg (fr.eval a)) fun v => Ll (fr.eval a) (sX (cb chk i m.next sn) (ib T chk B0 l (i + 1) (fr.put d v) m sn se)) (sX (aT chk i agg (fr.eval a) v sn) (ib T chk B0 l (i + 1) (fr.put d v) m sn (⟨i, agg, fr.eval a, v⟩ :: se)))) (ib T chk B0 l (i + 1) (fr.put d .undef) m sn se) := by rw [gA, qq]
theorem KF {op : iR} {t : Nat} {w : Bool} (h : bM op = 3) (h0 : Ef i chk = true) : ib T chk B0 (⟨d, .val op, some (t, w)⟩ :: l) i fr m sn se = gV (fr.get t) w m (ap fr.eval op m) fun v m' => ib T chk B0 l (i + 1) (fr.put d v) m' sn se := by rw [gA, EI h h0]; rfl
theorem KE {op : iR} {t : Nat} {w : Bool} (h : bM op = 3) (Xz : Ef i chk = false) : ib T chk B0 (⟨d, .val op, some (t, w)⟩ :: l) i fr m sn se = gE (fr.get t) w (dY (ap fr.eval op m) fun v m' => sX (aE chk i m' se) (ib T chk B0 l (i + 1) (fr.put d v) m' ((i, m) :: sn) se)) (ib T chk B0 l (i + 1) (fr.put d .undef) m sn se) := by rw [gA, yu h]
theorem Di {x : aD} {args : List aD} {t : Nat} {w : Bool} (h0 : Ef i chk = true) : ib T chk B0 (⟨d, .call x args, some (t, w)⟩ :: l) i fr m sn se = gV (fr.get t) w m (Pu (qS T (fr.eval x) (args.map fr.eval) m)) fun v m' => ib T chk B0 l (i + 1) (fr.put d v) m' sn se := by rw [gA, xf h0, H3]; rfl
theorem Dh {x : aD} {args : List aD} {t : Nat} {w : Bool} (Xz : Ef i chk = false) : ib T chk B0 (⟨d, .call x args, some (t, w)⟩ :: l) i fr m sn se = gE (fr.get t) w (lX (qS T (fr.eval x) (args.map fr.eval) m) fun v m' => sX (aE chk i m' se) (ib T chk B0 l (i + 1) (fr.put d v) m' ((i, m) :: sn) se)) (ib T chk B0 l (i + 1) (fr.put d .undef) m sn se) := by rw [gA, qt]
section
variable {p q : Prop} {x y : Option Out}
theorem Nn : gE (bo p) true x y = iF p x y := by by_cases h : p <;> simp [gE, bo, iF, h]
theorem Np : gE (bo p) false x y = iF p y x := by by_cases h : p <;> simp [gE, bo, iF, h]
theorem SJ : gE (.bool true) true x y = x := rfl
theorem SK : gE (.bool true) false x y = y := rfl
theorem SL : gE (.bool false) true x y = y := rfl
theorem SM : gE (.bool false) false x y = x := rfl
theorem Ke {w : Bool} : gE .undef w x y = y := rfl
theorem Ng : gE (gv p (bo q)) true x y = iF (p /\ q) x y := by by_cases h : p <;> by_cases h' : q <;> simp [gE, bo, gv, iF, h, h']
theorem Nh : gE (gv p (bo q)) false x y = iF (p /\ ¬ q) x y := by by_cases h : p <;> by_cases h' : q <;> simp [gE, bo, gv, iF, h, h']
theorem Ni : gE (gv p (.bool true)) true x y = iF p x y := by by_cases h : p <;> simp [gE, gv, iF, h]
theorem Nj : gE (gv p (.bool true)) false x y = y := by by_cases h : p <;> simp [gE, gv, h]
theorem Nk : gE (gv p (.bool false)) true x y = y := by by_cases h : p <;> simp [gE, gv, h]
theorem Nl : gE (gv p (.bool false)) false x y = iF p x y := by by_cases h : p <;> simp [gE, gv, iF, h]
end
theorem N2 {j : Nat} : aE chk j m [] = true := rfl
theorem KN {j : Nat} {s : Seen} : aE chk j m (s :: se) = ((!aZ s.i j chk || m.cJ s.agg s.a s.v) && aE chk j m se) := by
 simp only [aE]; cases aZ s.i j chk <;> simp
theorem Ip {agg : Option Nat} {a v : EV} : aT chk i agg a v [] = true := rfl
theorem FC {agg : Option Nat} {a v : EV} {j : Nat} {m1 : Mem} : aT chk i agg a v ((j, m1) :: sn) = ((!aZ i j chk || m1.cJ agg a v) && aT chk i agg a v sn) := by
 simp only [aT]; cases aZ i j chk <;> simp
theorem Mn {n : Nat} : cb chk i n [] = true := rfl
theorem IW {n j : Nat} {m1 : Mem} : cb chk i n ((j, m1) :: sn) = ((!aZ i j chk || m1.next.beq n) && cb chk i n sn) := by
 simp only [cb]; cases aZ i j chk <;> cases m1.next.beq n <;> simp
theorem IQ {j : Nat} : aZ i j [] = false := rfl
theorem FY {j a b : Nat} : aZ i j ((a, b) :: chk) = ((a == i && b == j) || aZ i j chk) := by
 simp only [aZ];have e : ∀ x y : Nat, x.beq y = (x == y) := fun x y => by
  by_cases h : x = y
  ·subst h; simp
  ·rw [gf h]; simp [h]
 rw [e, e]
 cases a == i <;> cases b == j <;> simp
def BM (o : Option EV) (v : EV) : Bool := match o with
 | some x => EV.same x v
 | none => false
theorem Fp {agg : Option Nat} {a v : EV} : m.cJ agg a v = BM (m.load agg a) v := by simp only [Mem.cJ, BM]; cases m.load agg a <;> rfl
theorem zf {v : EV} (h : Told v = true) : BM (some v) v = true := kH v h
theorem Fe {b : Bool} : Told (.bool b) = true := rfl
theorem LD {p : Prop} : Told (bo p) = true := rfl
theorem HX {k : IntKind} {n : Int} : Told (.int k n) = true := rfl
theorem HU {s : List UInt8} : Told (.str s) = true := rfl
theorem y3 : Told .bb = true := rfl
theorem HV {b o : Nat} : Told (.ptr b o) = true := rfl
theorem vt : Told .aa = true := rfl
theorem Bz {b o l : Nat} {c : Option Nat} : Told (.slice b o l c) = true := rfl
theorem y4 : Told .aS = true := rfl
theorem HW {b : Nat} : Told (.map b) = true := rfl
theorem xw : Told .aR = true := rfl
theorem vu : Told .aq = true := rfl
theorem Bx : Told .undef = true := rfl
theorem HY {x : List EV} : Told (.agg x) = gX x := by simp only [Told]
theorem By {x : List EV} : Told (.tuple x) = gX x := by simp only [Told]
theorem BA {t : Nat} {v : EV} : Told (.iface t v) = Told v := by simp only [Told]
theorem Fc {f : Nat} {x y : List EV} : Told (.func f x y) = (gX x && gX y) := by simp only [Told]
theorem Fb : gX [] = true := rfl
theorem Bw {v : EV} {x : List EV} : gX (v :: x) = (Told v && gX x) := by simp only [gX]
end
theorem Qv {fs : List (Option Nat × Nat × mw)} {a b : List EV} : cL (.agg fs) (.agg a) (.agg b) = lf fs a b := rfl
def uZ (o r : Option Bool) : Option Bool := match o with
 | some true => r
 | o => o
def Qs (t : mw) (x y : Option EV) (r : Option Bool) : Option Bool := match x, y with
 | some x, some y => uZ (cL t x y) r
 | _, _ => none
theorem NN {a b : List EV} : lf [] a b = some true := rfl
theorem Kz {g : Option Nat} {off : Nat} {t : mw} {r : List (Option Nat × Nat × mw)} {a b : List EV} : lf ((g, off, t) :: r) a b = Qs t (partOf g a off) (partOf g b off) (lf r a b) := by
 simp only [lf, Qs, uZ]
 cases partOf g a off <;> cases partOf g b off <;> rfl
theorem G7 {t : mw} {x y : EV} {r : Option Bool} : Qs t (some x) (some y) r = uZ (cL t x y) r := rfl
theorem Hv {r : Option Bool} : uZ (some true) r = r := rfl
theorem DI {r : Option Bool} : uZ (some false) r = some false := rfl
theorem QE {p : Prop} [Decidable p] : uZ (some (decide p)) (some true) = some (decide p) := by by_cases h : p <;> simp [uZ, h]
theorem QF {p : Prop} [Decidable p] : uZ (some (decide p)) (some false) = some false := by by_cases h : p <;> simp [uZ, h]
theorem KY {p q : Prop} [Decidable p] [Decidable q] : uZ (some (decide p)) (some (decide q)) = some (decide (p /\ q)) := by by_cases h : p <;> by_cases h' : q <;> simp [uZ, h, h']
def Uh (o : Option EV) (r : Option (List EV)) : Option (List EV) := match o with
 | some v => r.map (v :: ·)
 | none => none
theorem IE {fr : Fr} {m : Mem} {t : Nat} {agg : Option Nat} {rs : List jd} : aX fr m (.cell t agg :: rs) = Uh (m.load agg (fr.get t)) (aX fr m rs) := by
 simp only [aX, qp, Uh]; cases m.load agg (fr.get t) <;> rfl
theorem IJ {v : EV} {r : Option (List EV)} : Uh (some v) r = r.map (v :: ·) := rfl
theorem S4 {b o : Nat} : cL (.ax 3) (.ptr b o) .bb = some false := rfl
theorem S6 {b o : Nat} : cL (.ax 3) .bb (.ptr b o) = some false := rfl
theorem S7 : cL (.ax 3) .bb .bb = some true := rfl
theorem S2 {b o l : Nat} {c : Option Nat} : cL (.ax 4) (.slice b o l c) .aa = some false := rfl
theorem S5 {b o l : Nat} {c : Option Nat} : cL (.ax 4) .aa (.slice b o l c) = some false := rfl
theorem NP : cL (.ax 4) .aa .aa = some true := rfl
def YJ (m : Mem) (o : Option Fin) (v : EV) : Prop := ∃ m', o = some (.ret v m') /\ O8 m m'
theorem kC {p q : Prop} (h : p ↔ q) : bo p = bo q := by rw [propext h]
theorem y2 {p : Prop} (h : p) : EV.bool true = bo p := (KU h).symm
theorem gS {p : Prop} (h : ¬ p) : EV.bool false = bo p := (QC h).symm
def Wz (e esz : Nat) (m : Mem) (vs : Option (List EV)) : Option R1 := match vs with
 | some vs => bif vs.length.beq esz then some (.val (.slice (nb m.next 0) 0 1 (some 1)) (Ev.ext m [.cells vs esz e false])) else none
 | none => none
theorem A5 {e esz : Nat} {m : Mem} {vs : List EV} (h : vs.length = esz) : Wz e esz m (some vs) = some (.val (.slice (nb m.next 0) 0 1 (some 1)) (Ev.ext m [.cells vs esz e false])) := by
 show (bif vs.length.beq esz then _ else _) = _
 rw [h, cd]; rfl
theorem ym {ρ : aD -> EV} {m : Mem} {e esz : Nat} {zero : List EV} {x : aD} (hz : zero.length = esz) : ap ρ (.aU e esz 1 zero [(0, x)]) m = Wz e esz m (ρ x).cells := by
 simp only [ap, List.map_cons, List.map_nil, wY, Nat.zero_mul];have hc : cH 1 zero = zero := by simp [cH]
 rw [hc]
 cases hx : (ρ x).cells with
 | none => rfl
 | some vs =>
  by_cases hl : vs.length = esz
  ·rw [A5 hl, uC hl (by omega)]
   simp only [uB, List.take_zero, List.nil_append, Nat.zero_add];rw [List.drop_eq_nil_of_le (by omega), List.append_nil]; rfl
  ·simp only [Wz, EG, gf hl, cond_false]
theorem yn {ρ : aD -> EV} {m : Mem} {e esz : Nat} {zero : List EV} : ap ρ (.aU e esz 0 zero []) m = some (.val (.slice (nb m.next 0) 0 0 (some 0)) (Ev.ext m [.cells [] esz e false])) := by
 simp only [ap, List.map_nil, uB, cH, List.replicate_zero, List.flatten_nil]; rfl
end
end Go.Proofs.YtblcomejcahkdaaDoor.Ev
