/- EvF3, EvF4, EvLaw, EvLim, EvSym, EvExt, EvT, EvHeap. -/
import Derived.Below
import Derived.Laws.Externs
import Derived.Lib.Bytealg
import Derived.KernelRfl
import Derived.Test.YtdiccmapankckaaDoorMc
set_option linter.unusedSimpArgs false
set_option linter.unusedVariables false
set_option linter.unusedSectionVars false
set_option linter.defProp false
set_option maxRecDepth 20000
set_option maxHeartbeats 8000000
namespace Go.Proofs.YtdiccmapankckaaDoor.Ev
open Go
section
/- internal/stringslite.Index -/
abbrev dq : Nat := 78
def iu : aH :=
 (.seq
 (.seq
 (.region [iV 57 (.ab (tm 8)),
 iV 58 (.ab (tm 9)),
 iV 59 (.bin .lss (tm 57) (tm 58))])
 (.cond (.tmp 59)
 .skip
 (.exit 1)))
 (.block 2
 (.seq
 (.seq
 (.region [iV 60 (.ab (tm 0)),
 iV 61 (.ab (tm 8)),
 iV 62 (.gp (tm 60) (tm 61)),
 iV 63 (.ab (tm 6)),
 iV 64 (.eq true (.aJ 1) (tm 62) (tm 63))])
 (.cond (.tmp 64)
 (.seq
 (.region [iV 65 (.ab (tm 0)),
 iV 66 (.ab (tm 8)),
 iV 67 (.bin .add (tm 66) (kI 1)),
 iV 68 (.ab (tm 9)),
 iV 69 (.jF (tm 65) (some (tm 67)) (some (tm 68))),
 iV 70 (.ab (tm 6)),
 iC 71 76 [(tm 69), (tm 70)],
 iV 11 (.ab (tm 71))])
 (.seq
 (.seq
 (.region [iV 72 (.ab (tm 11)),
 iV 73 (.bin .lss (tm 72) (kI 0))])
 (.cond (.tmp 73)
 (.seq
 (.region [iV 4 (.ab (kI (-1)))])
 .ret)
 .skip))
 (.region [iV 74 (.ab (tm 8)),
 iV 75 (.ab (tm 11)),
 iV 76 (.bin .add (tm 75) (kI 1)),
 iV 77 (.bin .add (tm 74) (tm 76)),
 iV 8 (.ab (tm 77))])))
 .skip))
 (.seq
 (.seq
 (.region [iV 78 (.ab (tm 0)),
 iV 79 (.ab (tm 8)),
 iV 80 (.bin .add (tm 79) (kI 1)),
 iV 81 (.gp (tm 78) (tm 80)),
 iV 82 (.ab (tm 7)),
 iV 83 (.eq false (.aJ 1) (tm 81) (tm 82)),
 iV 84 (.ab (tm 83)),
 iG 85 (.ab (tm 0)) 84 true,
 iG 86 (.ab (tm 8)) 84 true,
 iG 87 (.ab (tm 8)) 84 true,
 iG 88 (.ab (tm 5)) 84 true,
 iG 89 (.bin .add (tm 87) (tm 88)) 84 true,
 iG 90 (.jF (tm 85) (some (tm 86)) (some (tm 89))) 84 true,
 iG 91 (.ab (tm 1)) 84 true,
 iG 92 (.eq false (.aJ 2) (tm 90) (tm 91)) 84 true,
 iV 93 (.pick (tm 84) (tm 92) (.const (.bool false)))])
 (.cond (.tmp 93)
 (.seq
 (.region [iV 94 (.ab (tm 8)),
 iV 4 (.ab (tm 94))])
 .ret)
 .skip))
 (.seq
 (.region [iV 95 (.ab (tm 8)),
 iV 96 (.bin .add (tm 95) (kI 1)),
 iV 8 (.ab (tm 96))])
 (.seq
 (.region [iV 97 (.ab (tm 10)),
 iV 98 (.bin .add (tm 97) (kI 1)),
 iV 10 (.ab (tm 98))])
 (.seq
 (.region [iV 99 (.ab (tm 5)),
 iV 100 (.load none (.const (.ptr 2 0))),
 iV 101 (.bin .leq (tm 99) (tm 100)),
 iV 102 (.ab (tm 101)),
 iG 103 (.ab (tm 10)) 102 true,
 iG 104 (.ab (tm 8)) 102 true,
 iH 105 94 [(tm 104)] 102 true,
 iG 106 (.bin .gtr (tm 103) (tm 105)) 102 true,
 iV 107 (.pick (tm 102) (tm 106) (.const (.bool false)))])
 (.cond (.tmp 107)
 (.seq
 (.region [iV 108 (.ab (tm 0)),
 iV 109 (.ab (tm 8)),
 iV 110 (.jF (tm 108) (some (tm 109)) none),
 iV 111 (.ab (tm 1)),
 iC 112 93 [(tm 110), (tm 111)],
 iV 12 (.ab (tm 112))])
 (.seq
 (.seq
 (.region [iV 113 (.ab (tm 12)),
 iV 114 (.bin .geq (tm 113) (kI 0))])
 (.cond (.tmp 114)
 (.seq
 (.region [iV 115 (.ab (tm 12)),
 iV 116 (.ab (tm 8)),
 iV 117 (.bin .add (tm 115) (tm 116)),
 iV 4 (.ab (tm 117))])
 .ret)
 .skip))
 (.seq
 (.region [iV 4 (.ab (kI (-1)))])
 .ret)))
 (.seq
 (.region [iV 118 (.ab (tm 5)),
 iV 119 (.load none (.const (.ptr 2 0))),
 iV 120 (.bin .gtr (tm 118) (tm 119)),
 iV 121 (.ab (tm 120)),
 iG 122 (.ab (tm 10)) 121 true,
 iG 123 (.ab (tm 8)) 121 true,
 iG 124 (.bin .shr (tm 123) (.const (.int .u64 4))) 121 true,
 iG 125 (.bin .add (kI 4) (tm 124)) 121 true,
 iG 126 (.bin .geq (tm 122) (tm 125)) 121 true,
 iV 127 (.pick (tm 121) (tm 126) (.const (.bool false))),
 iV 128 (.ab (tm 127)),
 iG 129 (.ab (tm 8)) 128 true,
 iG 130 (.ab (tm 9)) 128 true,
 iG 131 (.bin .lss (tm 129) (tm 130)) 128 true,
 iV 132 (.pick (tm 128) (tm 131) (.const (.bool false)))])
 (.cond (.tmp 132)
 (.seq
 (.region [iV 133 (.ab (tm 0)),
 iV 134 (.ab (tm 8)),
 iV 135 (.jF (tm 133) (some (tm 134)) none),
 iV 136 (.ab (tm 1)),
 iC 137 95 [(tm 135), (tm 136)],
 iV 13 (.ab (tm 137))])
 (.seq
 (.seq
 (.region [iV 138 (.ab (tm 13)),
 iV 139 (.bin .lss (tm 138) (kI 0))])
 (.cond (.tmp 139)
 (.seq
 (.region [iV 4 (.ab (kI (-1)))])
 .ret)
 .skip))
 (.seq
 (.region [iV 140 (.ab (tm 8)),
 iV 141 (.ab (tm 13)),
 iV 142 (.bin .add (tm 140) (tm 141)),
 iV 4 (.ab (tm 142))])
 .ret)))
 .skip))))))))))
def cy : ax :=
 ⟨143,
 (.seq
 (.region [iV 4 (.ab (kI 0))])
 (.seq
 (.region [iV 14 (.ab (tm 1)),
 iV 15 (.eG (tm 14)),
 iV 5 (.ab (tm 15))])
 (.seq
 (.block 0
 (.seq
 (.region [iV 17 (.ab (tm 5)),
 iV 18 (.eq false (.aJ 1) (tm 17) (kI 0)),
 iV 19 (.ab (tm 18)),
 iG 20 (.ab (tm 1)) 19 false,
 iG 21 (.ab (tm 0)) 19 false,
 iG 22 (.eq false (.aJ 2) (tm 20) (tm 21)) 19 false,
 iV 23 (.pick (tm 19) (.const (.bool true)) (tm 22)),
 iV 16 (.ab (tm 23))])
 (.cond (.tmp 16)
 (.seq
 (.region [iV 4 (.ab (kI 0))])
 .ret)
 (.seq
 (.region [iV 25 (.ab (tm 5)),
 iV 26 (.eq false (.aJ 1) (tm 25) (kI 1)),
 iV 24 (.ab (tm 26))])
 (.cond (.tmp 24)
 (.seq
 (.region [iV 27 (.ab (tm 0)),
 iV 28 (.ab (tm 1)),
 iV 29 (.gp (tm 28) (kI 0)),
 iC 30 76 [(tm 27), (tm 29)],
 iV 4 (.ab (tm 30))])
 .ret)
 (.seq
 (.region [iV 32 (.ab (tm 5)),
 iV 33 (.ab (tm 0)),
 iV 34 (.eG (tm 33)),
 iV 35 (.bin .geq (tm 32) (tm 34)),
 iV 31 (.ab (tm 35))])
 (.cond (.tmp 31)
 (.seq
 (.region [iV 4 (.ab (kI (-1)))])
 .ret)
 (.seq
 (.region [iV 37 (.ab (tm 5)),
 iV 38 (.load none (.const (.ptr 2 0))),
 iV 39 (.bin .leq (tm 37) (tm 38)),
 iV 40 (.ab (tm 39)),
 iG 41 (.ab (tm 0)) 40 true,
 iG 42 (.eG (tm 41)) 40 true,
 iG 43 (.bin .leq (tm 42) (kI 64)) 40 true,
 iV 44 (.pick (tm 40) (tm 43) (.const (.bool false))),
 iV 36 (.ab (tm 44))])
 (.cond (.tmp 36)
 (.seq
 (.region [iV 45 (.ab (tm 0)),
 iV 46 (.ab (tm 1)),
 iC 47 93 [(tm 45), (tm 46)],
 iV 4 (.ab (tm 47))])
 .ret)
 .skip)))))))))
 (.seq
 (.region [iV 48 (.ab (tm 1)),
 iV 49 (.gp (tm 48) (kI 0)),
 iV 6 (.ab (tm 49))])
 (.seq
 (.region [iV 50 (.ab (tm 1)),
 iV 51 (.gp (tm 50) (kI 1)),
 iV 7 (.ab (tm 51))])
 (.seq
 (.region [iV 8 (.ab (kI 0))])
 (.seq
 (.region [iV 52 (.ab (tm 0)),
 iV 53 (.eG (tm 52)),
 iV 54 (.ab (tm 5)),
 iV 55 (.bin .sub (tm 53) (tm 54)),
 iV 56 (.bin .add (tm 55) (kI 1)),
 iV 9 (.ab (tm 56))])
 (.seq
 (.region [iV 10 (.ab (kI 0))])
 (.seq
 (.block 1
 (.loop iu))
 (.seq
 (.region [iV 4 (.ab (kI (-1)))])
 .ret)))))))))),
 [.tmp 4]⟩
theorem ZD : cd Tryd.prog G Tryd.f78 = some cy := by kernel_rfl
/- slices.Contains[[]string,string] -/
abbrev qT : Nat := 79
def b9 : ax :=
 ⟨9,
 (.seq
 (.region [iV 4 (.ab (.const (.bool false)))])
 (.seq
 (.region [iV 5 (.ab (tm 0)),
 iV 6 (.ab (tm 1)),
 iC 7 96 [(tm 5), (tm 6)],
 iV 8 (.bin .geq (tm 7) (kI 0)),
 iV 4 (.ab (tm 8))])
 .ret)),
 [.tmp 4]⟩
theorem ZC : cd Tryd.prog G Tryd.f79 = some b9 := by kernel_rfl
/- (balustrade/parse.reader).let -/
abbrev kL : Nat := 80
def dU : ax :=
 ⟨26,
 (.seq
 (.region [iV 2 (.box 45 (tm 0)),
 iV 4 (.ab (kI 0))])
 (.seq
 (.region [iV 7 (.aj 0 (tm 2)),
 iV 8 (.load none (tm 7)),
 iC 9 15 [(tm 8)],
 iV 10 (.AS none 3 (tm 9)),
 iV 5 (.ab (tm 10))])
 (.seq
 (.region [iV 11 (.aj 0 (tm 2)),
 iV 12 (.load none (tm 11)),
 iC 13 31 [(tm 12)],
 iV 6 (.ab (tm 13))])
 (.seq
 (.region [iV 14 (.aj 0 (tm 2)),
 iV 15 (.load none (tm 14)),
 iC 16 30 [(tm 15), (kS [61])]])
 (.seq
 (.draw [iV 17 (.load (some 1) (tm 2)),
 iV 18 (.ab (tm 6)),
 iV 19 (.aj 0 (tm 2)),
 iV 20 (.load none (tm 19)),
 iC 21 88 [(tm 20)],
 iV 22 (.bD 3 1 1 [(.int .i64 0)] [(0, (tm 21))]),
 iV 23 (.ab (tm 5)),
 iV 24 (.build [(.int .i64 0), .ae, (.int .i64 0), (.str []), (.int .i64 0)] [(0, 1, (kI 12)), (3, 1, (tm 18)), (1, 1, (tm 22)), (4, 1, (tm 23))]),
 iC 25 85 [(tm 17), (tm 24)],
 iV 4 (.ab (tm 25))] [(0, 4)])
 .ret))))),
 [.tmp 4]⟩
theorem ZB : cd Tryd.prog G Tryd.f80 = some dU := by kernel_rfl
/- (balustrade/parse.reader).when -/
abbrev kh : Nat := 81
def dz : ax :=
 ⟨26,
 (.seq
 (.region [iV 2 (.box 45 (tm 0)),
 iV 4 (.ab (kI 0))])
 (.seq
 (.draw [iV 6 (.aj 0 (tm 2)),
 iV 7 (.load none (tm 6)),
 iC 8 88 [(tm 7)],
 iV 9 (.load (some 1) (tm 2)),
 iC 10 34 [(tm 9)],
 iV 11 (.bD 3 1 2 [(.int .i64 0)] [(0, (tm 8)), (1, (tm 10))]),
 iV 5 (.ab (tm 11))] [(3, 2)])
 (.seq
 (.seq
 (.region [iV 12 (.aj 0 (tm 2)),
 iV 13 (.load none (tm 12)),
 iC 14 56 [(tm 13), (kS [101, 108, 115, 101])]])
 (.cond (.tmp 14)
 (.region [iV 15 (.ab (tm 5)),
 iV 16 (.load (some 1) (tm 2)),
 iC 17 34 [(tm 16)],
 iV 18 (.bD 3 1 1 [(.int .i64 0)] [(0, (tm 17))]),
 iV 19 (.append 3 1 8 (tm 15) (tm 18)),
 iV 5 (.ab (tm 19))])
 .skip))
 (.seq
 (.region [iV 20 (.aj 0 (tm 2)),
 iV 21 (.load none (tm 20)),
 iV 22 (.ab (tm 5)),
 iV 23 (.ab (tm 1)),
 iV 24 (.build [(.int .i64 0), .ae, (.int .i64 0), (.str []), (.int .i64 0)] [(0, 1, (kI 15)), (1, 1, (tm 22)), (4, 1, (tm 23))]),
 iC 25 19 [(tm 21), (tm 24)],
 iV 4 (.ab (tm 25))])
 .ret)))),
 [.tmp 4]⟩
theorem ZA : cd Tryd.prog G Tryd.f81 = some dz := by kernel_rfl
/- (balustrade/parse.reader).while -/
abbrev jJ : Nat := 82
def cW : ax :=
 ⟨18,
 (.seq
 (.region [iV 2 (.box 45 (tm 0)),
 iV 4 (.ab (kI 0))])
 (.seq
 (.draw [iV 6 (.aj 0 (tm 2)),
 iV 7 (.load none (tm 6)),
 iC 8 88 [(tm 7)],
 iV 9 (.load (some 1) (tm 2)),
 iC 10 34 [(tm 9)],
 iV 11 (.bD 3 1 2 [(.int .i64 0)] [(0, (tm 8)), (1, (tm 10))]),
 iV 5 (.ab (tm 11))] [(3, 2)])
 (.seq
 (.region [iV 12 (.aj 0 (tm 2)),
 iV 13 (.load none (tm 12)),
 iV 14 (.ab (tm 5)),
 iV 15 (.ab (tm 1)),
 iV 16 (.build [(.int .i64 0), .ae, (.int .i64 0), (.str []), (.int .i64 0)] [(0, 1, (kI 16)), (1, 1, (tm 14)), (4, 1, (tm 15))]),
 iC 17 19 [(tm 13), (tm 16)],
 iV 4 (.ab (tm 17))])
 .ret))),
 [.tmp 4]⟩
theorem Zz : cd Tryd.prog G Tryd.f82 = some cW := by kernel_rfl
/- (balustrade/parse.reader).count -/
abbrev jK : Nat := 83
def cY : ax :=
 ⟨39,
 (.seq
 (.region [iV 2 (.box 45 (tm 0)),
 iV 4 (.ab (kI 0))])
 (.seq
 (.region [iV 9 (.aj 0 (tm 2)),
 iV 10 (.load none (tm 9)),
 iC 11 15 [(tm 10)],
 iV 12 (.AS none 3 (tm 11)),
 iV 5 (.ab (tm 12))])
 (.seq
 (.region [iV 13 (.aj 0 (tm 2)),
 iV 14 (.load none (tm 13)),
 iC 15 31 [(tm 14)],
 iV 6 (.ab (tm 15))])
 (.seq
 (.region [iV 16 (.aj 0 (tm 2)),
 iV 17 (.load none (tm 16)),
 iC 18 30 [(tm 17), (kS [61])]])
 (.seq
 (.region [iV 19 (.aj 0 (tm 2)),
 iV 20 (.load none (tm 19)),
 iC 21 88 [(tm 20)],
 iV 7 (.ab (tm 21))])
 (.seq
 (.region [iV 22 (.aj 0 (tm 2)),
 iV 23 (.load none (tm 22)),
 iC 24 30 [(tm 23), (kS [44])]])
 (.seq
 (.draw [iV 25 (.ab (tm 7)),
 iV 26 (.aj 0 (tm 2)),
 iV 27 (.load none (tm 26)),
 iC 28 88 [(tm 27)],
 iV 29 (.load (some 1) (tm 2)),
 iC 30 34 [(tm 29)],
 iV 31 (.bD 3 1 3 [(.int .i64 0)] [(0, (tm 25)), (1, (tm 28)), (2, (tm 30))]),
 iV 8 (.ab (tm 31))] [(4, 3)])
 (.seq
 (.region [iV 32 (.aj 0 (tm 2)),
 iV 33 (.load none (tm 32)),
 iV 34 (.ab (tm 6)),
 iV 35 (.ab (tm 8)),
 iV 36 (.ab (tm 5)),
 iV 37 (.build [(.int .i64 0), .ae, (.int .i64 0), (.str []), (.int .i64 0)] [(0, 1, (kI 17)), (3, 1, (tm 34)), (1, 1, (tm 35)), (4, 1, (tm 36))]),
 iC 38 19 [(tm 33), (tm 37)],
 iV 4 (.ab (tm 38))])
 .ret)))))))),
 [.tmp 4]⟩
theorem Zy : cd Tryd.prog G Tryd.f83 = some cY := by kernel_rfl
/- balustrade/parse.sorts$1 -/
abbrev nM : Nat := 84
def fg : ax :=
 ⟨9,
 (.seq
 (.region [iV 2 (.box 45 (tm 0)),
 iV 4 (.ab (kI 0))])
 (.seq
 (.region [iV 5 (.load (some 1) (tm 2)),
 iV 6 (.ab (tm 1)),
 iV 7 (.build [(.int .i64 0), .ae, (.int .i64 0), (.str []), (.int .i64 0)] [(0, 1, (kI 18)), (4, 1, (tm 6))]),
 iC 8 85 [(tm 5), (tm 7)],
 iV 4 (.ab (tm 8))])
 .ret)),
 [.tmp 4]⟩
theorem Zx : cd Tryd.prog G Tryd.f84 = some fg := by kernel_rfl
/- (balustrade/parse.reader).end -/
abbrev dc : Nat := 85
def dV : ax :=
 ⟨12,
 (.seq
 (.region [iV 2 (.box 45 (tm 0)),
 iV 3 (.box 39 (tm 1)),
 iV 4 (.ab (kI 0))])
 (.seq
 (.region [iV 5 (.aj 0 (tm 2)),
 iV 6 (.load none (tm 5)),
 iC 7 30 [(tm 6), (kS [59])]])
 (.seq
 (.region [iV 8 (.aj 0 (tm 2)),
 iV 9 (.load none (tm 8)),
 iV 10 (.load (some 5) (tm 3)),
 iC 11 19 [(tm 9), (tm 10)],
 iV 4 (.ab (tm 11))])
 .ret))),
 [.tmp 4]⟩
theorem Zw : cd Tryd.prog G Tryd.f85 = some dV := by kernel_rfl
/- balustrade/parse.sorts$2 -/
abbrev nL : Nat := 86
def ff : ax :=
 ⟨9,
 (.seq
 (.region [iV 2 (.box 45 (tm 0)),
 iV 4 (.ab (kI 0))])
 (.seq
 (.region [iV 5 (.load (some 1) (tm 2)),
 iV 6 (.ab (tm 1)),
 iV 7 (.build [(.int .i64 0), .ae, (.int .i64 0), (.str []), (.int .i64 0)] [(0, 1, (kI 19)), (4, 1, (tm 6))]),
 iC 8 85 [(tm 5), (tm 7)],
 iV 4 (.ab (tm 8))])
 .ret)),
 [.tmp 4]⟩
theorem Zv : cd Tryd.prog G Tryd.f86 = some ff := by kernel_rfl
/- balustrade/parse.sorts$3 -/
abbrev nK : Nat := 87
def fc : ax :=
 ⟨13,
 (.seq
 (.region [iV 2 (.box 45 (tm 0)),
 iV 4 (.ab (kI 0))])
 (.seq
 (.draw [iV 5 (.load (some 1) (tm 2)),
 iV 6 (.aj 0 (tm 2)),
 iV 7 (.load none (tm 6)),
 iC 8 88 [(tm 7)],
 iV 9 (.bD 3 1 1 [(.int .i64 0)] [(0, (tm 8))]),
 iV 10 (.ab (tm 1)),
 iV 11 (.build [(.int .i64 0), .ae, (.int .i64 0), (.str []), (.int .i64 0)] [(0, 1, (kI 20)), (1, 1, (tm 9)), (4, 1, (tm 10))]),
 iC 12 85 [(tm 5), (tm 11)],
 iV 4 (.ab (tm 12))] [(0, 3)])
 .ret)),
 [.tmp 4]⟩
theorem Zu : cd Tryd.prog G Tryd.f87 = some fc := by kernel_rfl
/- (*balustrade/expr.Reader).Expr -/
abbrev aU : Nat := 88
def dZ : ax :=
 ⟨10,
 (.seq
 (.region [iV 2 (.ab (kI 0))])
 (.seq
 (.region [iV 4 (.ab (tm 0)),
 iC 5 97 [(tm 4), (kI 1)],
 iV 3 (.ab (tm 5))])
 (.seq
 (.seq
 (.region [iV 6 (.ab (tm 0)),
 iC 7 29 [(tm 6)],
 iV 8 (.un .not (tm 7))])
 (.cond (.tmp 8)
 (.seq
 (.region [iV 2 (.ab (kI (-1)))])
 .ret)
 .skip))
 (.seq
 (.region [iV 9 (.ab (tm 3)),
 iV 2 (.ab (tm 9))])
 .ret)))),
 [.tmp 2]⟩
theorem Zt : cd Tryd.prog G Tryd.f88 = some dZ := by kernel_rfl
/- balustrade/parse.sorts$4 -/
abbrev nJ : Nat := 89
def e9 : ax :=
 ⟨13,
 (.seq
 (.region [iV 2 (.box 45 (tm 0)),
 iV 4 (.ab (kI 0))])
 (.seq
 (.draw [iV 5 (.load (some 1) (tm 2)),
 iV 6 (.aj 0 (tm 2)),
 iV 7 (.load none (tm 6)),
 iC 8 88 [(tm 7)],
 iV 9 (.bD 3 1 1 [(.int .i64 0)] [(0, (tm 8))]),
 iV 10 (.ab (tm 1)),
 iV 11 (.build [(.int .i64 0), .ae, (.int .i64 0), (.str []), (.int .i64 0)] [(0, 1, (kI 21)), (1, 1, (tm 9)), (4, 1, (tm 10))]),
 iC 12 85 [(tm 5), (tm 11)],
 iV 4 (.ab (tm 12))] [(0, 3)])
 .ret)),
 [.tmp 4]⟩
theorem Zs : cd Tryd.prog G Tryd.f89 = some e9 := by kernel_rfl
/- (*balustrade/expr.Reader).Call -/
abbrev ji : Nat := 90
def ed : ax :=
 ⟨14,
 (.seq
 (.region [iV 6 (.ab (kI 0))])
 (.seq
 (.region [iV 7 (.ab (tm 0)),
 iV 8 (.ab (tm 1)),
 iV 9 (.ab (tm 0)),
 iC 10 98 [(tm 9)],
 iV 11 (.ab (tm 2)),
 iV 12 (.build [(.int .i64 0), .ae, (.int .i64 0), (.str []), (.int .i64 0)] [(0, 1, (kI 11)), (3, 1, (tm 8)), (1, 1, (tm 10)), (4, 1, (tm 11))]),
 iC 13 19 [(tm 7), (tm 12)],
 iV 6 (.ab (tm 13))])
 .ret)),
 [.tmp 6]⟩
theorem Zr : cd Tryd.prog G Tryd.f90 = some ed := by kernel_rfl
/- (*balustrade/expr.Reader).Inner -/
abbrev cu : Nat := 91
def dE : ax :=
 ⟨33,
 (.seq
 (.region [iV 6 (.ab (kI 0))])
 (.seq
 (.region [iV 9 (.ab (tm 0)),
 iC 10 15 [(tm 9)],
 iV 11 (.AS none 3 (tm 10)),
 iV 7 (.ab (tm 11))])
 (.seq
 (.seq
 (.region [iV 12 (.ab (tm 0)),
 iV 13 (.ab (tm 1)),
 iC 14 30 [(tm 12), (tm 13)],
 iV 15 (.un .not (tm 14)),
 iV 16 (.ab (tm 15)),
 iG 17 (.ab (tm 0)) 16 false,
 iG 18 (.ab (tm 7)) 16 false,
 iH 19 58 [(tm 17), (tm 18)] 16 false,
 iG 20 (.un .not (tm 19)) 16 false,
 iV 21 (.pick (tm 16) (.const (.bool true)) (tm 20))])
 (.cond (.tmp 21)
 (.seq
 (.region [iV 6 (.ab (kI (-1)))])
 .ret)
 .skip))
 (.seq
 (.region [iV 22 (.ab (tm 0)),
 iC 23 88 [(tm 22)],
 iV 8 (.ab (tm 23))])
 (.seq
 (.region [iV 24 (.ab (tm 0)),
 iV 25 (.ab (tm 2)),
 iC 26 30 [(tm 24), (tm 25)]])
 (.seq
 (.region [iV 27 (.ab (tm 0)),
 iC 28 60 [(tm 27)]])
 (.seq
 (.seq
 (.region [iV 29 (.ab (tm 0)),
 iC 30 29 [(tm 29)],
 iV 31 (.un .not (tm 30))])
 (.cond (.tmp 31)
 (.seq
 (.region [iV 6 (.ab (kI (-1)))])
 .ret)
 .skip))
 (.seq
 (.region [iV 32 (.ab (tm 8)),
 iV 6 (.ab (tm 32))])
 .ret)))))))),
 [.tmp 6]⟩
theorem Zq : cd Tryd.prog G Tryd.f91 = some dE := by kernel_rfl
/- internal/bytealg.Cutover -/
abbrev Ec : Nat := 94
def cR : ax :=
 ⟨6,
 (.seq
 (.region [iV 2 (.ab (kI 0))])
 (.seq
 (.region [iV 3 (.ab (tm 0)),
 iV 4 (.bin .add (tm 3) (kI 16)),
 iV 5 (.bin .quo (tm 4) (kI 8)),
 iV 2 (.ab (tm 5))])
 .ret)),
 [.tmp 2]⟩
theorem Zp : cd Tryd.prog G Tryd.f94 = some cR := by kernel_rfl
/- internal/bytealg.IndexRabinKarp[string] -/
abbrev ur : Nat := 95
def iS : aH :=
 (.seq
 (.seq
 (.region [iV 18 (.ab (tm 9)),
 iV 19 (.ab (tm 7)),
 iV 20 (.bin .lss (tm 18) (tm 19))])
 (.cond (.tmp 20)
 .skip
 (.exit 0)))
 (.seq
 (.block 1
 (.region [iV 23 (.ab (tm 8)),
 iV 24 (.bin .mul (tm 23) (.const (.int .u32 16777619))),
 iV 25 (.ab (tm 0)),
 iV 26 (.ab (tm 9)),
 iV 27 (.gp (tm 25) (tm 26)),
 iV 28 (.conv (.int .u32) (tm 27)),
 iV 29 (.bin .add (tm 24) (tm 28)),
 iV 8 (.ab (tm 29))]))
 (.region [iV 21 (.ab (tm 9)),
 iV 22 (.bin .add (tm 21) (kI 1)),
 iV 9 (.ab (tm 22))])))
def iR : aH :=
 (.seq
 (.seq
 (.region [iV 41 (.ab (tm 10)),
 iV 42 (.ab (tm 0)),
 iV 43 (.eG (tm 42)),
 iV 44 (.bin .lss (tm 41) (tm 43))])
 (.cond (.tmp 44)
 .skip
 (.exit 2)))
 (.block 3
 (.seq
 (.region [iV 45 (.ab (tm 8)),
 iV 46 (.bin .mul (tm 45) (.const (.int .u32 16777619))),
 iV 8 (.ab (tm 46))])
 (.seq
 (.region [iV 47 (.ab (tm 8)),
 iV 48 (.ab (tm 0)),
 iV 49 (.ab (tm 10)),
 iV 50 (.gp (tm 48) (tm 49)),
 iV 51 (.conv (.int .u32) (tm 50)),
 iV 52 (.bin .add (tm 47) (tm 51)),
 iV 8 (.ab (tm 52))])
 (.seq
 (.region [iV 53 (.ab (tm 8)),
 iV 54 (.ab (tm 6)),
 iV 55 (.ab (tm 0)),
 iV 56 (.ab (tm 10)),
 iV 57 (.ab (tm 7)),
 iV 58 (.bin .sub (tm 56) (tm 57)),
 iV 59 (.gp (tm 55) (tm 58)),
 iV 60 (.conv (.int .u32) (tm 59)),
 iV 61 (.bin .mul (tm 54) (tm 60)),
 iV 62 (.bin .sub (tm 53) (tm 61)),
 iV 8 (.ab (tm 62))])
 (.seq
 (.region [iV 63 (.ab (tm 10)),
 iV 64 (.bin .add (tm 63) (kI 1)),
 iV 10 (.ab (tm 64))])
 (.seq
 (.region [iV 65 (.ab (tm 8)),
 iV 66 (.ab (tm 5)),
 iV 67 (.eq false (.aJ 1) (tm 65) (tm 66)),
 iV 68 (.ab (tm 67)),
 iG 69 (.ab (tm 0)) 68 true,
 iG 70 (.ab (tm 10)) 68 true,
 iG 71 (.ab (tm 7)) 68 true,
 iG 72 (.bin .sub (tm 70) (tm 71)) 68 true,
 iG 73 (.ab (tm 10)) 68 true,
 iG 74 (.jF (tm 69) (some (tm 72)) (some (tm 73))) 68 true,
 iG 75 (.ab (tm 1)) 68 true,
 iG 76 (.eq false (.aJ 2) (tm 74) (tm 75)) 68 true,
 iV 77 (.pick (tm 68) (tm 76) (.const (.bool false)))])
 (.cond (.tmp 77)
 (.seq
 (.region [iV 78 (.ab (tm 10)),
 iV 79 (.ab (tm 7)),
 iV 80 (.bin .sub (tm 78) (tm 79)),
 iV 4 (.ab (tm 80))])
 .ret)
 .skip))))))))
def bd : ax :=
 ⟨81,
 (.seq
 (.region [iV 4 (.ab (kI 0))])
 (.seq
 (.region [iV 12 (.ab (tm 1)),
 iC 13 99 [(tm 12)],
 iV 11 (.ab (tm 13)),
 iV 14 (.extract (tm 11) 0),
 iV 15 (.extract (tm 11) 1),
 iV 5 (.ab (tm 14)),
 iV 6 (.ab (tm 15))])
 (.seq
 (.region [iV 16 (.ab (tm 1)),
 iV 17 (.eG (tm 16)),
 iV 7 (.ab (tm 17))])
 (.seq
 (.region [iV 8 (.ab (.const (.int .u32 0)))])
 (.seq
 (.seq
 (.region [iV 9 (.ab (kI 0))])
 (.block 0
 (.loop iS)))
 (.seq
 (.seq
 (.region [iV 30 (.ab (tm 8)),
 iV 31 (.ab (tm 5)),
 iV 32 (.eq false (.aJ 1) (tm 30) (tm 31)),
 iV 33 (.ab (tm 32)),
 iG 34 (.ab (tm 0)) 33 true,
 iG 35 (.ab (tm 7)) 33 true,
 iG 36 (.jF (tm 34) none (some (tm 35))) 33 true,
 iG 37 (.ab (tm 1)) 33 true,
 iG 38 (.eq false (.aJ 2) (tm 36) (tm 37)) 33 true,
 iV 39 (.pick (tm 33) (tm 38) (.const (.bool false)))])
 (.cond (.tmp 39)
 (.seq
 (.region [iV 4 (.ab (kI 0))])
 .ret)
 .skip))
 (.seq
 (.seq
 (.region [iV 40 (.ab (tm 7)),
 iV 10 (.ab (tm 40))])
 (.block 2
 (.loop iR)))
 (.seq
 (.region [iV 4 (.ab (kI (-1)))])
 .ret)))))))),
 [.tmp 4]⟩
theorem Zo : cd Tryd.prog G Tryd.f95 = some bd := by kernel_rfl
/- slices.Index[[]string,string] -/
abbrev uo : Nat := 96
def cF : aH :=
 (.seq
 (.region [iV 9 (.bin .lss (tm 8) (tm 7))])
 (.seq
 (.cond (.tmp 9)
 .skip
 (.exit 0))
 (.seq
 (.block 1
 (.seq
 (.region [iV 10 (.ab (tm 8)),
 iV 5 (.ab (tm 10))])
 (.seq
 (.region [iV 11 (.ab (tm 1)),
 iV 12 (.ab (tm 0)),
 iV 13 (.ab (tm 5)),
 iV 14 (.eu 1 (tm 12) (tm 13)),
 iV 15 (.load none (tm 14)),
 iV 16 (.eq false (.aJ 2) (tm 11) (tm 15))])
 (.cond (.tmp 16)
 (.seq
 (.region [iV 17 (.ab (tm 5)),
 iV 4 (.ab (tm 17))])
 .ret)
 .skip))))
 (.region [iV 18 (.bin .add (tm 8) (kI 1)),
 iV 8 (.ab (tm 18))]))))
def cK : ax :=
 ⟨19,
 (.seq
 (.region [iV 4 (.ab (kI 0))])
 (.seq
 (.seq
 (.region [iV 6 (.ab (tm 0)),
 iV 7 (.len (tm 6)),
 iV 8 (.ab (kI 0))])
 (.block 0
 (.loop cF)))
 (.seq
 (.region [iV 4 (.ab (kI (-1)))])
 .ret))),
 [.tmp 4]⟩
theorem Zn : cd Tryd.prog G Tryd.f96 = some cK := by kernel_rfl
/- (*balustrade/expr.Reader).climb -/
abbrev eX : Nat := 97
def dg : aH :=
 (.seq
 (.seq
 (.region [iV 12 (.ab (tm 0)),
 iC 13 29 [(tm 12)]])
 (.cond (.tmp 13)
 .skip
 (.exit 0)))
 (.block 1
 (.seq
 (.region [iV 14 (.ab (tm 0)),
 iC 15 15 [(tm 14)],
 iV 7 (.alloc 36 [(.int .i64 0), (.str []), (.int .i64 0), (.int .i64 0)]),
 iN (.store 4 (tm 7) (tm 15))])
 (.seq
 (.region [iV 16 (.aj 1 (tm 7)),
 iV 17 (.load none (tm 16)),
 iC 18 101 [(tm 17)],
 iV 8 (.alloc 105 [(.int .i64 0), (.int .i64 0)]),
 iN (.store 2 (tm 8) (tm 18))])
 (.seq
 (.seq
 (.region [iV 19 (.aj 0 (tm 7)),
 iV 20 (.load none (tm 19)),
 iV 21 (.eq true (.aJ 1) (tm 20) (kI 4)),
 iV 22 (.ab (tm 21)),
 iG 23 (.aj 1 (tm 8)) 22 false,
 iG 24 (.load none (tm 23)) 22 false,
 iG 25 (.eq false (.aJ 1) (tm 24) (kI 0)) 22 false,
 iV 26 (.pick (tm 22) (.const (.bool true)) (tm 25)),
 iV 27 (.ab (tm 26)),
 iG 28 (.aj 0 (tm 8)) 27 false,
 iG 29 (.load none (tm 28)) 27 false,
 iG 30 (.ab (tm 1)) 27 false,
 iG 31 (.bin .lss (tm 29) (tm 30)) 27 false,
 iV 32 (.pick (tm 27) (.const (.bool true)) (tm 31)),
 iV 33 (.ab (tm 32)),
 iG 34 (.aj 0 (tm 8)) 33 false,
 iG 35 (.load none (tm 34)) 33 false,
 iG 36 (.ab (tm 6)) 33 false,
 iG 37 (.bin .gtr (tm 35) (tm 36)) 33 false,
 iV 38 (.pick (tm 33) (.const (.bool true)) (tm 37))])
 (.cond (.tmp 38)
 (.exit 0)
 .skip))
 (.seq
 (.region [iV 39 (.ab (tm 0)),
 iV 40 (.cw (tm 39)),
 iV 41 (.aj 1 (tm 40)),
 iV 42 (.load none (tm 41)),
 iV 43 (.bin .add (tm 42) (kI 1)),
 iV 44 (.cw (tm 39)),
 iV 45 (.aj 1 (tm 44)),
 iN (.store 1 (tm 45) (tm 43))])
 (.seq
 (.region [iV 46 (.ab (tm 0)),
 iV 47 (.aj 0 (tm 8)),
 iV 48 (.load none (tm 47)),
 iV 49 (.bin .add (tm 48) (kI 1)),
 iC 50 97 [(tm 46), (tm 49)],
 iV 9 (.ab (tm 50))])
 (.seq
 (.region [iV 51 (.ab (tm 0)),
 iV 52 (.aj 1 (tm 8)),
 iV 53 (.load none (tm 52)),
 iV 54 (.ab (tm 5)),
 iV 55 (.ab (tm 9)),
 iV 56 (.bD 3 1 2 [(.int .i64 0)] [(0, (tm 54)), (1, (tm 55))]),
 iV 57 (.aj 3 (tm 7)),
 iV 58 (.load none (tm 57)),
 iV 59 (.build [(.int .i64 0), .ae, (.int .i64 0), (.str []), (.int .i64 0)] [(0, 1, (kI 5)), (2, 1, (tm 53)), (1, 1, (tm 56)), (4, 1, (tm 58))]),
 iC 60 19 [(tm 51), (tm 59)],
 iV 5 (.ab (tm 60))])
 (.seq
 (.seq
 (.region [iV 61 (.aj 0 (tm 8)),
 iV 62 (.load none (tm 61)),
 iV 6 (.ab (tm 62))])
 (.seq
 (.region [iV 63 (.ab (tm 6)),
 iV 64 (.eq false (.aJ 1) (tm 63) (kI 3))])
 (.cond (.tmp 64)
 (.region [iV 65 (.ab (tm 6)),
 iV 66 (.bin .sub (tm 65) (kI 1)),
 iV 6 (.ab (tm 66))])
 .skip)))
 (.exit 1))))))))))
def dC : ax :=
 ⟨68,
 (.seq
 (.region [iV 4 (.ab (kI 0))])
 (.seq
 (.region [iV 10 (.ab (tm 0)),
 iC 11 100 [(tm 10)],
 iV 5 (.ab (tm 11))])
 (.seq
 (.region [iV 6 (.ab (kI 6))])
 (.seq
 .skip
 (.seq
 (.block 0
 (.loop dg))
 (.seq
 (.region [iV 67 (.ab (tm 5)),
 iV 4 (.ab (tm 67))])
 .ret)))))),
 [.tmp 4]⟩
theorem Zm : cd Tryd.prog G Tryd.f97 = some dC := by kernel_rfl
/- (*balustrade/expr.Reader).arguments -/
abbrev lb : Nat := 98
def aF : aH :=
 (.seq
 (.seq
 (.region [iV 21 (.ab (tm 5)),
 iV 22 (.ab (tm 21)),
 iG 23 (.ab (tm 0)) 22 true,
 iH 24 29 [(tm 23)] 22 true,
 iV 25 (.pick (tm 22) (tm 24) (.const (.bool false)))])
 (.cond (.tmp 25)
 .skip
 (.exit 0)))
 (.seq
 (.block 1
 (.seq
 (.seq
 (.region [iV 28 (.ab (tm 4)),
 iV 29 (.len (tm 28)),
 iV 30 (.eq false (.aJ 1) (tm 29) (kI 8))])
 (.cond (.tmp 30)
 (.region [iV 31 (.ab (tm 0)),
 iV 32 (.ab (tm 0)),
 iC 33 15 [(tm 32)],
 iV 34 (.AS none 3 (tm 33)),
 iC 35 17 [(tm 31), (kI 3), (tm 34)]])
 .skip))
 (.region [iV 36 (.ab (tm 4)),
 iV 37 (.ab (tm 0)),
 iC 38 88 [(tm 37)],
 iV 39 (.bD 3 1 1 [(.int .i64 0)] [(0, (tm 38))]),
 iV 40 (.append 3 1 8 (tm 36) (tm 39)),
 iV 4 (.ab (tm 40))])))
 (.region [iV 26 (.ab (tm 0)),
 iC 27 56 [(tm 26), (kS [44])],
 iV 5 (.ab (tm 27))])))
def ct : ax :=
 ⟨46,
 (.seq
 (.region [iV 2 (.ab (.const .ae))])
 (.seq
 (.region [iV 6 (.ab (tm 0)),
 iC 7 15 [(tm 6)],
 iV 8 (.AS none 3 (tm 7)),
 iV 3 (.ab (tm 8))])
 (.seq
 (.seq
 (.region [iV 9 (.ab (tm 0)),
 iC 10 30 [(tm 9), (kS [40])],
 iV 11 (.un .not (tm 10)),
 iV 12 (.ab (tm 11)),
 iG 13 (.ab (tm 0)) 12 false,
 iG 14 (.ab (tm 3)) 12 false,
 iH 15 58 [(tm 13), (tm 14)] 12 false,
 iG 16 (.un .not (tm 15)) 12 false,
 iV 17 (.pick (tm 12) (.const (.bool true)) (tm 16))])
 (.cond (.tmp 17)
 (.seq
 (.region [iV 2 (.ab (.const .ae))])
 .ret)
 .skip))
 (.seq
 (.region [iV 4 (.ab (.const .ae))])
 (.seq
 (.seq
 (.region [iV 18 (.ab (tm 0)),
 iC 19 16 [(tm 18), (kS [41])],
 iV 20 (.un .not (tm 19)),
 iV 5 (.ab (tm 20))])
 (.block 0
 (.loop aF)))
 (.seq
 (.region [iV 41 (.ab (tm 0)),
 iC 42 30 [(tm 41), (kS [41])]])
 (.seq
 (.region [iV 43 (.ab (tm 0)),
 iC 44 60 [(tm 43)]])
 (.seq
 (.region [iV 45 (.ab (tm 4)),
 iV 2 (.ab (tm 45))])
 .ret)))))))),
 [.tmp 2]⟩
theorem Zl : cd Tryd.prog G Tryd.f98 = some ct := by kernel_rfl
/- internal/bytealg.hashStr[string] -/
abbrev x7 : Nat := 99
def ko : aH :=
 (.seq
 (.seq
 (.region [iV 9 (.ab (tm 5)),
 iV 10 (.ab (tm 0)),
 iV 11 (.eG (tm 10)),
 iV 12 (.bin .lss (tm 9) (tm 11))])
 (.cond (.tmp 12)
 .skip
 (.exit 0)))
 (.seq
 (.block 1
 (.region [iV 15 (.ab (tm 4)),
 iV 16 (.bin .mul (tm 15) (.const (.int .u32 16777619))),
 iV 17 (.ab (tm 0)),
 iV 18 (.ab (tm 5)),
 iV 19 (.gp (tm 17) (tm 18)),
 iV 20 (.conv (.int .u32) (tm 19)),
 iV 21 (.bin .add (tm 16) (tm 20)),
 iV 4 (.ab (tm 21))]))
 (.region [iV 13 (.ab (tm 5)),
 iV 14 (.bin .add (tm 13) (kI 1)),
 iV 5 (.ab (tm 14))])))
def km : aH :=
 (.seq
 (.seq
 (.region [iV 24 (.ab (tm 8)),
 iV 25 (.bin .gtr (tm 24) (kI 0))])
 (.cond (.tmp 25)
 .skip
 (.exit 2)))
 (.seq
 (.block 3
 (.seq
 (.seq
 (.region [iV 28 (.ab (tm 8)),
 iV 29 (.bin .and (tm 28) (kI 1)),
 iV 30 (.eq true (.aJ 1) (tm 29) (kI 0))])
 (.cond (.tmp 30)
 (.region [iV 31 (.ab (tm 6)),
 iV 32 (.ab (tm 7)),
 iV 33 (.bin .mul (tm 31) (tm 32)),
 iV 6 (.ab (tm 33))])
 .skip))
 (.region [iV 34 (.ab (tm 7)),
 iV 35 (.ab (tm 7)),
 iV 36 (.bin .mul (tm 34) (tm 35)),
 iV 7 (.ab (tm 36))])))
 (.region [iV 26 (.ab (tm 8)),
 iV 27 (.bin .shr (tm 26) (.const (.int .u64 1))),
 iV 8 (.ab (tm 27))])))
def bH : ax :=
 ⟨39,
 (.seq
 (.region [iV 2 (.ab (.const (.int .u32 0))),
 iV 3 (.ab (.const (.int .u32 0)))])
 (.seq
 (.region [iV 4 (.ab (.const (.int .u32 0)))])
 (.seq
 (.seq
 (.region [iV 5 (.ab (kI 0))])
 (.block 0
 (.loop ko)))
 (.seq
 (.region [iV 6 (.ab (.const (.int .u32 1))),
 iV 7 (.ab (.const (.int .u32 16777619)))])
 (.seq
 (.seq
 (.region [iV 22 (.ab (tm 0)),
 iV 23 (.eG (tm 22)),
 iV 8 (.ab (tm 23))])
 (.block 2
 (.loop km)))
 (.seq
 (.region [iV 37 (.ab (tm 4)),
 iV 38 (.ab (tm 6)),
 iV 2 (.ab (tm 37)),
 iV 3 (.ab (tm 38))])
 .ret)))))),
 [.tmp 2, .tmp 3]⟩
theorem Zk : cd Tryd.prog G Tryd.f99 = some bH := by kernel_rfl
/- (*balustrade/expr.Reader).front -/
abbrev eo : Nat := 100
def dB : ax :=
 ⟨35,
 (.seq
 (.region [iV 2 (.ab (kI 0))])
 (.seq
 (.region [iV 6 (.ab (tm 0)),
 iC 7 15 [(tm 6)],
 iV 3 (.alloc 36 [(.int .i64 0), (.str []), (.int .i64 0), (.int .i64 0)]),
 iN (.store 4 (tm 3) (tm 7))])
 (.seq
 (.region [iV 4 (.ab (kI 0))])
 (.seq
 (.block 0
 (.seq
 (.region [iV 13 (.ab (tm 0)),
 iC 14 56 [(tm 13), (kS [45])],
 iV 12 (.ab (tm 14))])
 (.cond (.tmp 12)
 (.region [iV 4 (.ab (kI 6))])
 (.seq
 (.region [iV 16 (.ab (tm 0)),
 iC 17 56 [(tm 16), (kS [33])],
 iV 15 (.ab (tm 17))])
 (.cond (.tmp 15)
 (.region [iV 4 (.ab (kI 7))])
 (.seq
 (.region [iV 8 (.ab (tm 0)),
 iV 9 (.ab (tm 0)),
 iC 10 103 [(tm 9)],
 iC 11 102 [(tm 8), (tm 10)],
 iV 2 (.ab (tm 11))])
 .ret))))))
 (.seq
 (.seq
 (.region [iV 18 (.ab (tm 0)),
 iV 19 (.aj 3 (tm 3)),
 iV 20 (.load none (tm 19)),
 iC 21 58 [(tm 18), (tm 20)],
 iV 22 (.un .not (tm 21))])
 (.cond (.tmp 22)
 (.seq
 (.region [iV 2 (.ab (kI (-1)))])
 .ret)
 .skip))
 (.seq
 (.region [iV 23 (.ab (tm 0)),
 iC 24 100 [(tm 23)],
 iV 5 (.ab (tm 24))])
 (.seq
 (.region [iV 25 (.ab (tm 0)),
 iC 26 60 [(tm 25)]])
 (.seq
 (.region [iV 27 (.ab (tm 0)),
 iV 28 (.ab (tm 4)),
 iV 29 (.ab (tm 5)),
 iV 30 (.bD 3 1 1 [(.int .i64 0)] [(0, (tm 29))]),
 iV 31 (.aj 3 (tm 3)),
 iV 32 (.load none (tm 31)),
 iV 33 (.build [(.int .i64 0), .ae, (.int .i64 0), (.str []), (.int .i64 0)] [(0, 1, (tm 28)), (1, 1, (tm 30)), (4, 1, (tm 32))]),
 iC 34 19 [(tm 27), (tm 33)],
 iV 2 (.ab (tm 34))])
 .ret)))))))),
 [.tmp 2]⟩
theorem W7 : cd Tryd.prog G Tryd.f100 = some dB := by kernel_rfl
end
section
/- balustrade/expr.ops -/
abbrev Lf : Nat := 101
def jU : ax :=
 ⟨53,
 (.seq
 (.region [iV 2 (.alloc 105 [(.int .i64 0), (.int .i64 0)])])
 (.seq
 (.seq
 (.region [iV 3 (.ab (tm 0))])
 (.block 0
 (.seq
 (.region [iV 5 (.eq false (.aJ 2) (tm 3) (kS [124, 124])),
 iV 4 (.ab (tm 5))])
 (.cond (.tmp 4)
 (.seq
 (.region [iV 6 (.build [(.int .i64 0), (.int .i64 0)] [(0, 1, (kI 1)), (1, 1, (kI 1))]),
 iN (.store 2 (tm 2) (tm 6))])
 .ret)
 (.seq
 (.region [iV 8 (.eq false (.aJ 2) (tm 3) (kS [38, 38])),
 iV 7 (.ab (tm 8))])
 (.cond (.tmp 7)
 (.seq
 (.region [iV 9 (.build [(.int .i64 0), (.int .i64 0)] [(0, 1, (kI 2)), (1, 1, (kI 2))]),
 iN (.store 2 (tm 2) (tm 9))])
 .ret)
 (.seq
 (.region [iV 11 (.eq false (.aJ 2) (tm 3) (kS [61, 61])),
 iV 10 (.ab (tm 11))])
 (.cond (.tmp 10)
 (.seq
 (.region [iV 12 (.build [(.int .i64 0), (.int .i64 0)] [(0, 1, (kI 3)), (1, 1, (kI 3))]),
 iN (.store 2 (tm 2) (tm 12))])
 .ret)
 (.seq
 (.region [iV 14 (.eq false (.aJ 2) (tm 3) (kS [33, 61])),
 iV 13 (.ab (tm 14))])
 (.cond (.tmp 13)
 (.seq
 (.region [iV 15 (.build [(.int .i64 0), (.int .i64 0)] [(0, 1, (kI 3)), (1, 1, (kI 4))]),
 iN (.store 2 (tm 2) (tm 15))])
 .ret)
 (.seq
 (.region [iV 17 (.eq false (.aJ 2) (tm 3) (kS [60])),
 iV 16 (.ab (tm 17))])
 (.cond (.tmp 16)
 (.seq
 (.region [iV 18 (.build [(.int .i64 0), (.int .i64 0)] [(0, 1, (kI 3)), (1, 1, (kI 5))]),
 iN (.store 2 (tm 2) (tm 18))])
 .ret)
 (.seq
 (.region [iV 20 (.eq false (.aJ 2) (tm 3) (kS [60, 61])),
 iV 19 (.ab (tm 20))])
 (.cond (.tmp 19)
 (.seq
 (.region [iV 21 (.build [(.int .i64 0), (.int .i64 0)] [(0, 1, (kI 3)), (1, 1, (kI 6))]),
 iN (.store 2 (tm 2) (tm 21))])
 .ret)
 (.seq
 (.region [iV 23 (.eq false (.aJ 2) (tm 3) (kS [62])),
 iV 22 (.ab (tm 23))])
 (.cond (.tmp 22)
 (.seq
 (.region [iV 24 (.build [(.int .i64 0), (.int .i64 0)] [(0, 1, (kI 3)), (1, 1, (kI 7))]),
 iN (.store 2 (tm 2) (tm 24))])
 .ret)
 (.seq
 (.region [iV 26 (.eq false (.aJ 2) (tm 3) (kS [62, 61])),
 iV 25 (.ab (tm 26))])
 (.cond (.tmp 25)
 (.seq
 (.region [iV 27 (.build [(.int .i64 0), (.int .i64 0)] [(0, 1, (kI 3)), (1, 1, (kI 8))]),
 iN (.store 2 (tm 2) (tm 27))])
 .ret)
 (.seq
 (.region [iV 29 (.eq false (.aJ 2) (tm 3) (kS [43])),
 iV 28 (.ab (tm 29))])
 (.cond (.tmp 28)
 (.seq
 (.region [iV 30 (.build [(.int .i64 0), (.int .i64 0)] [(0, 1, (kI 4)), (1, 1, (kI 9))]),
 iN (.store 2 (tm 2) (tm 30))])
 .ret)
 (.seq
 (.region [iV 32 (.eq false (.aJ 2) (tm 3) (kS [45])),
 iV 31 (.ab (tm 32))])
 (.cond (.tmp 31)
 (.seq
 (.region [iV 33 (.build [(.int .i64 0), (.int .i64 0)] [(0, 1, (kI 4)), (1, 1, (kI 10))]),
 iN (.store 2 (tm 2) (tm 33))])
 .ret)
 (.seq
 (.region [iV 35 (.eq false (.aJ 2) (tm 3) (kS [43, 37])),
 iV 34 (.ab (tm 35))])
 (.cond (.tmp 34)
 (.seq
 (.region [iV 36 (.build [(.int .i64 0), (.int .i64 0)] [(0, 1, (kI 4)), (1, 1, (kI 11))]),
 iN (.store 2 (tm 2) (tm 36))])
 .ret)
 (.seq
 (.region [iV 38 (.eq false (.aJ 2) (tm 3) (kS [45, 37])),
 iV 37 (.ab (tm 38))])
 (.cond (.tmp 37)
 (.seq
 (.region [iV 39 (.build [(.int .i64 0), (.int .i64 0)] [(0, 1, (kI 4)), (1, 1, (kI 12))]),
 iN (.store 2 (tm 2) (tm 39))])
 .ret)
 (.seq
 (.region [iV 41 (.eq false (.aJ 2) (tm 3) (kS [42])),
 iV 40 (.ab (tm 41))])
 (.cond (.tmp 40)
 (.seq
 (.region [iV 42 (.build [(.int .i64 0), (.int .i64 0)] [(0, 1, (kI 5)), (1, 1, (kI 13))]),
 iN (.store 2 (tm 2) (tm 42))])
 .ret)
 (.seq
 (.region [iV 44 (.eq false (.aJ 2) (tm 3) (kS [47])),
 iV 43 (.ab (tm 44))])
 (.cond (.tmp 43)
 (.seq
 (.region [iV 45 (.build [(.int .i64 0), (.int .i64 0)] [(0, 1, (kI 5)), (1, 1, (kI 14))]),
 iN (.store 2 (tm 2) (tm 45))])
 .ret)
 (.seq
 (.region [iV 47 (.eq false (.aJ 2) (tm 3) (kS [37])),
 iV 46 (.ab (tm 47))])
 (.cond (.tmp 46)
 (.seq
 (.region [iV 48 (.build [(.int .i64 0), (.int .i64 0)] [(0, 1, (kI 5)), (1, 1, (kI 15))]),
 iN (.store 2 (tm 2) (tm 48))])
 .ret)
 (.seq
 (.region [iV 50 (.eq false (.aJ 2) (tm 3) (kS [42, 37])),
 iV 49 (.ab (tm 50))])
 (.cond (.tmp 49)
 (.seq
 (.region [iV 51 (.build [(.int .i64 0), (.int .i64 0)] [(0, 1, (kI 5)), (1, 1, (kI 16))]),
 iN (.store 2 (tm 2) (tm 51))])
 .ret)
 .skip))))))))))))))))))))))))))))))))))
 (.seq
 (.region [iV 52 (.build [(.int .i64 0), (.int .i64 0)] []),
 iN (.store 2 (tm 2) (tm 52))])
 .ret))),
 [.cell 2 (some 2)]⟩
theorem W6 : cd Tryd.prog G Tryd.f101 = some jU := by kernel_rfl
/- (*balustrade/expr.Reader).cells -/
abbrev ki : Nat := 102
def dh : aH :=
 (.seq
 (.seq
 (.region [iV 7 (.ab (tm 0)),
 iC 8 16 [(tm 7), (kS [91])]])
 (.cond (.tmp 8)
 .skip
 (.exit 0)))
 (.block 1
 (.seq
 (.region [iV 9 (.ab (tm 0)),
 iC 10 15 [(tm 9)],
 iV 11 (.AS none 3 (tm 10)),
 iV 5 (.ab (tm 11))])
 (.seq
 (.region [iV 12 (.ab (tm 0)),
 iC 13 91 [(tm 12), (kS [91]), (kS [93])],
 iV 6 (.ab (tm 13))])
 (.region [iV 14 (.ab (tm 0)),
 iV 15 (.ab (tm 1)),
 iV 16 (.ab (tm 6)),
 iV 17 (.bD 3 1 2 [(.int .i64 0)] [(0, (tm 15)), (1, (tm 16))]),
 iV 18 (.ab (tm 5)),
 iV 19 (.build [(.int .i64 0), .ae, (.int .i64 0), (.str []), (.int .i64 0)] [(0, 1, (kI 8)), (1, 1, (tm 17)), (4, 1, (tm 18))]),
 iC 20 19 [(tm 14), (tm 19)],
 iV 1 (.ab (tm 20))])))))
def dD : ax :=
 ⟨22,
 (.seq
 (.region [iV 4 (.ab (kI 0))])
 (.seq
 (.block 0
 (.loop dh))
 (.seq
 (.region [iV 21 (.ab (tm 1)),
 iV 4 (.ab (tm 21))])
 .ret))),
 [.tmp 4]⟩
theorem W5 : cd Tryd.prog G Tryd.f102 = some dD := by kernel_rfl
/- (*balustrade/expr.Reader).atom -/
abbrev jh : Nat := 103
def bQ : ax :=
 ⟨109,
 (.seq
 (.region [iV 2 (.ab (kI 0))])
 (.seq
 (.region [iV 4 (.ab (tm 0)),
 iC 5 15 [(tm 4)],
 iV 3 (.alloc 36 [(.int .i64 0), (.str []), (.int .i64 0), (.int .i64 0)]),
 iN (.store 4 (tm 3) (tm 5))])
 (.seq
 (.block 0
 (.seq
 (.region [iV 7 (.ab (tm 0)),
 iC 8 29 [(tm 7)],
 iV 9 (.un .not (tm 8)),
 iV 6 (.ab (tm 9))])
 (.cond (.tmp 6)
 (.seq
 (.region [iV 2 (.ab (kI (-1)))])
 .ret)
 (.seq
 (.region [iV 11 (.ab (tm 0)),
 iC 12 16 [(tm 11), (kS [40])],
 iV 10 (.ab (tm 12))])
 (.cond (.tmp 10)
 (.seq
 (.region [iV 13 (.ab (tm 0)),
 iC 14 91 [(tm 13), (kS [40]), (kS [41])],
 iV 2 (.ab (tm 14))])
 .ret)
 (.seq
 (.region [iV 16 (.aj 0 (tm 3)),
 iV 17 (.load none (tm 16)),
 iV 18 (.eq false (.aJ 1) (tm 17) (kI 2)),
 iV 15 (.ab (tm 18))])
 (.cond (.tmp 15)
 (.seq
 (.region [iV 19 (.ab (tm 0)),
 iV 20 (.cw (tm 19)),
 iV 21 (.aj 1 (tm 20)),
 iV 22 (.load none (tm 21)),
 iV 23 (.bin .add (tm 22) (kI 1)),
 iV 24 (.cw (tm 19)),
 iV 25 (.aj 1 (tm 24)),
 iN (.store 1 (tm 25) (tm 23))])
 (.seq
 (.region [iV 26 (.ab (tm 0)),
 iV 27 (.aj 2 (tm 3)),
 iV 28 (.load none (tm 27)),
 iV 29 (.aj 3 (tm 3)),
 iV 30 (.load none (tm 29)),
 iV 31 (.build [(.int .i64 0), .ae, (.int .i64 0), (.str []), (.int .i64 0)] [(0, 1, (kI 1)), (2, 1, (tm 28)), (4, 1, (tm 30))]),
 iC 32 19 [(tm 26), (tm 31)],
 iV 2 (.ab (tm 32))])
 .ret))
 (.seq
 (.region [iV 34 (.aj 0 (tm 3)),
 iV 35 (.load none (tm 34)),
 iV 36 (.eq false (.aJ 1) (tm 35) (kI 1)),
 iV 33 (.ab (tm 36))])
 (.cond (.tmp 33)
 (.seq
 (.region [iV 37 (.ab (tm 0)),
 iV 38 (.cw (tm 37)),
 iV 39 (.aj 1 (tm 38)),
 iV 40 (.load none (tm 39)),
 iV 41 (.bin .add (tm 40) (kI 1)),
 iV 42 (.cw (tm 37)),
 iV 43 (.aj 1 (tm 42)),
 iN (.store 1 (tm 43) (tm 41))])
 (.seq
 (.seq
 (.region [iV 44 (.ab (tm 0)),
 iC 45 16 [(tm 44), (kS [40])]])
 (.cond (.tmp 45)
 (.seq
 (.region [iV 46 (.ab (tm 0)),
 iV 47 (.aj 1 (tm 3)),
 iV 48 (.load none (tm 47)),
 iV 49 (.aj 3 (tm 3)),
 iV 50 (.load none (tm 49)),
 iC 51 90 [(tm 46), (tm 48), (tm 50)],
 iV 2 (.ab (tm 51))])
 .ret)
 .skip))
 (.seq
 (.region [iV 52 (.ab (tm 0)),
 iV 53 (.aj 1 (tm 3)),
 iV 54 (.load none (tm 53)),
 iV 55 (.aj 3 (tm 3)),
 iV 56 (.load none (tm 55)),
 iV 57 (.build [(.int .i64 0), .ae, (.int .i64 0), (.str []), (.int .i64 0)] [(0, 1, (kI 4)), (3, 1, (tm 54)), (4, 1, (tm 56))]),
 iC 58 19 [(tm 52), (tm 57)],
 iV 2 (.ab (tm 58))])
 .ret)))
 (.seq
 (.region [iV 60 (.ab (tm 0)),
 iC 61 56 [(tm 60), (kS [116, 114, 117, 101])],
 iV 59 (.ab (tm 61))])
 (.cond (.tmp 59)
 (.seq
 (.region [iV 62 (.ab (tm 0)),
 iV 63 (.aj 3 (tm 3)),
 iV 64 (.load none (tm 63)),
 iV 65 (.build [(.int .i64 0), .ae, (.int .i64 0), (.str []), (.int .i64 0)] [(0, 1, (kI 2)), (2, 1, (kI 1)), (4, 1, (tm 64))]),
 iC 66 19 [(tm 62), (tm 65)],
 iV 2 (.ab (tm 66))])
 .ret)
 (.seq
 (.region [iV 68 (.ab (tm 0)),
 iC 69 56 [(tm 68), (kS [102, 97, 108, 115, 101])],
 iV 67 (.ab (tm 69))])
 (.cond (.tmp 67)
 (.seq
 (.region [iV 70 (.ab (tm 0)),
 iV 71 (.aj 3 (tm 3)),
 iV 72 (.load none (tm 71)),
 iV 73 (.build [(.int .i64 0), .ae, (.int .i64 0), (.str []), (.int .i64 0)] [(0, 1, (kI 2)), (4, 1, (tm 72))]),
 iC 74 19 [(tm 70), (tm 73)],
 iV 2 (.ab (tm 74))])
 .ret)
 (.seq
 (.region [iV 76 (.ab (tm 0)),
 iC 77 56 [(tm 76), (kS [110, 105, 108])],
 iV 75 (.ab (tm 77))])
 (.cond (.tmp 75)
 (.seq
 (.region [iV 78 (.ab (tm 0)),
 iV 79 (.aj 3 (tm 3)),
 iV 80 (.load none (tm 79)),
 iV 81 (.build [(.int .i64 0), .ae, (.int .i64 0), (.str []), (.int .i64 0)] [(0, 1, (kI 3)), (4, 1, (tm 80))]),
 iC 82 19 [(tm 78), (tm 81)],
 iV 2 (.ab (tm 82))])
 .ret)
 (.seq
 (.region [iV 84 (.ab (tm 0)),
 iC 85 56 [(tm 84), (kS [108, 101, 110])],
 iV 83 (.ab (tm 85))])
 (.cond (.tmp 83)
 (.seq
 (.draw [iV 86 (.ab (tm 0)),
 iV 87 (.ab (tm 0)),
 iC 88 91 [(tm 87), (kS [40]), (kS [41])],
 iV 89 (.bD 3 1 1 [(.int .i64 0)] [(0, (tm 88))]),
 iV 90 (.aj 3 (tm 3)),
 iV 91 (.load none (tm 90)),
 iV 92 (.build [(.int .i64 0), .ae, (.int .i64 0), (.str []), (.int .i64 0)] [(0, 1, (kI 9)), (1, 1, (tm 89)), (4, 1, (tm 91))]),
 iC 93 19 [(tm 86), (tm 92)],
 iV 2 (.ab (tm 93))] [(5, 2)])
 .ret)
 (.seq
 (.region [iV 95 (.ab (tm 0)),
 iC 96 56 [(tm 95), (kS [110, 101, 119])],
 iV 94 (.ab (tm 96))])
 (.cond (.tmp 94)
 (.seq
 (.draw [iV 97 (.ab (tm 0)),
 iV 98 (.ab (tm 0)),
 iC 99 91 [(tm 98), (kS [40]), (kS [41])],
 iV 100 (.bD 3 1 1 [(.int .i64 0)] [(0, (tm 99))]),
 iV 101 (.aj 3 (tm 3)),
 iV 102 (.load none (tm 101)),
 iV 103 (.build [(.int .i64 0), .ae, (.int .i64 0), (.str []), (.int .i64 0)] [(0, 1, (kI 10)), (1, 1, (tm 100)), (4, 1, (tm 102))]),
 iC 104 19 [(tm 97), (tm 103)],
 iV 2 (.ab (tm 104))] [(5, 2)])
 .ret)
 .skip)))))))))))))))))))
 (.seq
 (.region [iV 105 (.ab (tm 0)),
 iV 106 (.aj 3 (tm 3)),
 iV 107 (.load none (tm 106)),
 iC 108 17 [(tm 105), (kI 8), (tm 107)]])
 (.seq
 (.region [iV 2 (.ab (kI (-1)))])
 .ret))))),
 [.tmp 2]⟩
theorem W4 : cd Tryd.prog G Tryd.f103 = some bQ := by kernel_rfl
end
section
open Go Go.RowKit
theorem OF {P : Program} {G : List Nat} (iv : P.follows .mixedOrders = true) {T : Nat -> Option iz} (hT : ∀ f e, T f = some e -> Ki P G f e) {k f : Nat} {F : ax} (hf : T f = some (.go F))
  {args : List EV} {m m' : Mem} {b : Bool} (h : aS T k f args m = some (.ret (.bool b) m')) {ρ : ep} {w : World} {aw : Array Value} (hR : R w.heap.size ρ m w) (hG : jt G ρ)
  (qW : ∀ b L, ρ b = some L -> Live m b -> L.ro = true) (hv : ft ρ args aw.toList) : Calls P f aw w fun e w' => e = .returned (.bool b) /\ Below w.heap.size w w' := by
 cases k with
 | zero => simp [aS] at h
 | succ k =>
  simp only [aS, hf, iq] at h;obtain ⟨fn, h1, h2⟩ := hT f _ hf
  obtain ⟨_, hc⟩ := EY iv (EJ iv hT k) k h1 h2 h hR hG hv
  refine hc.mono fun e w' hp => ?_
  obtain ⟨ρ', v', rfl, zh, _, hs⟩ := hp
  cases zh
  refine ⟨rfl, hs.os, hs.tape, hs.output, hs.size, fun i hi => hs.kept i hi ?_⟩
  rintro ⟨b, L, h1, h2, h3, _⟩
  rw [qW b L h1 h2] at h3
  cases h3
def aey (n : Nat) : ep := fun b => if b < n then some ⟨b, 0, (match tabl b with | some l => l.length | none => 0), 1, true⟩ else none
def Xa (n : Nat) : Mem := ⟨n, .leaf⟩
theorem QI (n b : Nat) : (Xa n).get b = .dead := by unfold Mem.get Xa; simp only [Tr.zp]; rfl
def nR (c c' : Call) : Prop := ∀ f a m r, c f a m = some r -> c' f a m = some r
theorem wI {c c' : Call} (h : nR c c') {f : EV} {a : List EV} {m : Mem} {r : Fin} (e : fM c f a m = some r) : fM c' f a m = some r := by
 cases f <;> simp only [fM, reduceCtorEq] at e ⊢
 exact h _ _ _ _ e
theorem pn {c c' : Call} (h : nR c c') : ∀ (ops : List aY) (fr : Fr) (m : Mem) (r : Out), gQ c ops fr m = some r -> gQ c' ops fr m = some r
 | [], fr, m, r, e => e
 | o :: ops, fr, m, r, e => by
  simp only [gQ] at e ⊢
  cases hw : bf fr o.guard with
  | none => simp [hw] at e
  | some b =>
  cases b with
  | false => simp only [hw] at e ⊢; exact pn h ops _ _ _ e
  | true =>
   simp only [hw] at e ⊢
   cases ho : o.op with
   | val op =>
    simp only [ho] at e ⊢
    cases hv : aA fr.eval op m with
    | none => simp [hv] at e
    | some q => obtain ⟨v, m1⟩ := q; simp only [hv] at e ⊢; exact pn h ops _ _ _ e
   | call f args =>
    simp only [ho] at e ⊢
    cases hv : fM c (fr.eval f) (args.map fr.eval) m with
    | none => simp [hv] at e
    | some q =>
     rw [wI h hv]
     cases q with
     | ret v m1 => simp only [hv] at e ⊢; exact pn h ops _ _ _ e
     | gD v m1 => simp only [hv] at e ⊢; exact e
   | panic x => simp only [ho] at e ⊢; exact e
   | defer f args =>
    simp only [ho] at e ⊢
    split at e
    ·exact pn h ops _ _ _ e
    ·cases e
theorem jv {c c' : Call} (h : nR c c') {chk : List (Nat × Nat)} {B0 : Nat} : ∀ (ops : List aY) (i : Nat) (fr : Fr) (m : Mem) (sn : List (Nat × Mem)) (se : List Seen) (r : Out), dG c chk B0 ops i fr m sn se = some r -> dG c' chk B0 ops i fr m sn se = some r
 | [], i, fr, m, sn, se, r, e => e
 | o :: ops, i, fr, m, sn, se, r, e => by
  simp only [dG] at e ⊢
  cases hw : bf fr o.guard with
  | none => simp [hw] at e
  | some b =>
  cases b with
  | false => simp only [hw] at e ⊢; exact jv h ops _ _ _ _ _ _ e
  | true =>
   simp only [hw] at e ⊢
   cases ho : o.op with
   | panic x => simp [ho] at e
   | defer f x => simp [ho] at e
   | call f args =>
    simp only [ho] at e ⊢
    cases hv : fM c (fr.eval f) (args.map fr.eval) m with
    | none => simp [hv] at e
    | some q =>
     rw [wI h hv]
     cases q with
     | gD v m1 => simp [hv] at e
     | ret v m1 =>
      simp only [hv] at e ⊢
      cases hk : aX chk i m1 se <;> simp only [hk, cond_true, cond_false, reduceCtorEq] at e ⊢
      exact jv h ops _ _ _ _ _ _ e
   | val op =>
    simp only [ho] at e ⊢
    split at e
    ·cases hv : aA fr.eval op m with
     | none => simp [hv] at e
     | some q => obtain ⟨v, m1⟩ := q; simp only [hv] at e ⊢; exact jv h ops _ _ _ _ _ _ e
    ·cases hv : aA fr.eval op ⟨B0 + i, m.gB⟩ with
     | none => simp [hv] at e
     | some q => obtain ⟨v, m1⟩ := q; simp only [hv] at e ⊢; exact jv h ops _ _ _ _ _ _ e
    ·split at e
     ·rename_i agg x _
      cases hl : m.load agg (fr.eval x) with
      | none => simp [hl] at e
      | some v =>
       simp only [hl] at e ⊢
       cases hf : Gk (fr.eval x) <;> simp only [hf, cond_true, cond_false] at e ⊢
       ·cases hk : bG chk i agg (fr.eval x) v sn <;> simp only [hk, cond_true, cond_false, reduceCtorEq] at e ⊢
        exact jv h ops _ _ _ _ _ _ e
       ·cases hk : dL chk i m.next sn <;> simp only [hk, cond_true, cond_false, reduceCtorEq] at e ⊢
        exact jv h ops _ _ _ _ _ _ e
     ·cases e
    ·rename_i h0 h1 h2
     cases hv : aA fr.eval op m with
     | none => simp [hv] at e
     | some q =>
      obtain ⟨v, m1⟩ := q
      simp only [hv] at e ⊢
      cases hk : aX chk i m1 se <;> simp only [hk, cond_true, cond_false, reduceCtorEq] at e ⊢
      exact jv h ops _ _ _ _ _ _ e
theorem zb {b b' : Fr -> Mem -> Option Out} (h : ∀ fr m r, b fr m = some r -> b' fr m = some r) : ∀ (n n' : Nat), n <= n' -> ∀ (fr : Fr) (m : Mem) (r : Out), iter b n fr m = some r -> iter b' n' fr m = some r
 | 0, n', _, fr, m, r, e => by simp [iter] at e
 | n + 1, 0, hn, fr, m, r, e => by omega
 | n + 1, n' + 1, hn, fr, m, r, e => by
  simp only [iter] at e ⊢
  cases hb : b fr m with
  | none => simp [hb] at e
  | some o =>
   rw [h _ _ _ hb];simp only [hb] at e
   cases o with
   | norm fT m1 => exact zb h n n' (by omega) fT m1 r e
   | exit id fT m1 => exact e
   | ret fT m1 => exact e
   | gD v fT m1 => exact e
theorem eY {c c' : Call} (h : nR c c') {n n' : Nat} (hn : n <= n') : ∀ (x : aH) (fr : Fr) (m : Mem) (r : Out), ao c n x fr m = some r -> ao c' n' x fr m = some r
 | .skip, fr, m, r, e => e
 | .ret, fr, m, r, e => e
 | .exit id, fr, m, r, e => e
 | .region ops, fr, m, r, e => by simp only [ao] at e ⊢; exact pn h _ _ _ _ e
 | .draw ops chk, fr, m, r, e => by simp only [ao] at e ⊢; exact jv h _ _ _ _ _ _ _ e
 | .seq a b, fr, m, r, e => by
  simp only [ao] at e ⊢
  cases ha : ao c n a fr m with
  | none => simp [ha] at e
  | some o =>
   rw [eY h hn a _ _ _ ha];simp only [ha] at e
   cases o with
   | norm fT m1 => exact eY h hn b _ _ _ e
   | exit id fT m1 => exact e
   | ret fT m1 => exact e
   | gD v fT m1 => exact e
 | .cond x a b, fr, m, r, e => by
  simp only [ao] at e ⊢
  split at e
  ·rename_i t _
   cases t <;> simp only [cond_true, cond_false] at e ⊢
   ·exact eY h hn b _ _ _ e
   ·exact eY h hn a _ _ _ e
  ·cases e
 | .block id a, fr, m, r, e => by
  simp only [ao] at e ⊢
  cases ha : ao c n a fr m with
  | none => simp [ha] at e
  | some o =>
   rw [eY h hn a _ _ _ ha];simp only [ha] at e;exact e
 | .loop a, fr, m, r, e => by
  simp only [ao] at e ⊢
  exact zb (fun fr m r => eY h hn a fr m r) n n' hn fr m r e
theorem oP {c c' : Call} (h : nR c c') {n n' : Nat} (hn : n <= n') {F : ax} {args : List EV} {m : Mem} {r : Fin} (e : dr c n F args m = some r) : dr c' n' F args m = some r := by
 unfold dr at e ⊢
 cases hl : args.length.ble F.ntmps <;> simp only [hl, cond_true, cond_false, reduceCtorEq] at e ⊢
 cases hc : ao c n F.body ⟨cJ args 0 .leaf, []⟩ m with
 | none => simp [hc] at e
 | some o =>
  rw [eY h hn _ _ _ _ hc];simp only [hc] at e;exact e
theorem xT {c c' : Call} (h : nR c c') {n n' : Nat} (hn : n <= n') {d : Nat} {F : ax} {args : List EV} {u : Option EV} {m m' : Mem} (e : fC c n d F args u m = some m') : fC c' n' d F args u m = some m' := by
 unfold fC at e ⊢
 cases hl : args.length.ble F.ntmps <;> simp only [hl, cond_true, cond_false, reduceCtorEq] at e ⊢
 cases hc : ao c n F.body (Fr.set ⟨cJ args 0 .leaf, []⟩ d (u.getD .aC)) m with
 | none => simp [hc] at e
 | some o =>
  rw [eY h hn _ _ _ _ hc];simp only [hc] at e;exact e
theorem ib {c c' : Call} (h : nR c c') {n n' : Nat} (hn : n <= n') {rs : List lV} {D : List (Nat × Option Nat × ax)} {fr : Fr} : ∀ (ds : List (Nat × List EV)) (u : Option EV) (m : Mem) (r : Fin), cN c n rs D fr ds u m = some r -> cN c' n' rs D fr ds u m = some r
 | [], none, m, r, e => e
 | [], some v, m, r, e => e
 | (g, args) :: ds, u, m, r, e => by
  simp only [cN] at e ⊢
  cases hd : mh g D with
  | none => simp [hd] at e
  | some q =>
   obtain ⟨b, F⟩ := q
   cases b with
   | some d =>
    simp only [hd] at e ⊢
    cases hb : fC c n d F args u m with
    | none => simp [hb] at e
    | some m1 =>
     rw [xT h hn hb];simp only [hb] at e;exact ib h hn ds none m1 r e
   | none =>
    simp only [hd] at e ⊢
    cases hb : dr c n F args m with
    | none => simp [hb] at e
    | some fin =>
     rw [oP h hn hb];simp only [hb] at e
     cases fin with
     | ret v m1 => exact ib h hn ds u m1 r e
     | gD v m1 =>
      cases u with
      | none => exact ib h hn ds (some v) m1 r e
      | some x => cases e
theorem EL {c c' : Call} (h : nR c c') {n n' : Nat} (hn : n <= n') {F : ax} {D : List (Nat × Option Nat × ax)} {args : List EV} {m : Mem} {r : Fin} (e : jn c n F D args m = some r) : jn c' n' F D args m = some r := by
 unfold jn at e ⊢
 cases hl : args.length.ble F.ntmps <;> simp only [hl, cond_true, cond_false, reduceCtorEq] at e ⊢
 cases hc : ao c n F.body ⟨cJ args 0 .leaf, []⟩ m with
 | none => simp [hc] at e
 | some o =>
  rw [eY h hn _ _ _ _ hc];simp only [hc] at e
  cases o with
  | norm fr m => exact ib h hn _ _ _ _ e
  | ret fr m => exact ib h hn _ _ _ _ e
  | gD v fr m => exact ib h hn _ _ _ _ e
  | exit id fr m => exact e
theorem kB (T : Nat -> Option iz) : ∀ (k k' : Nat), k <= k' -> nR (aS T k) (aS T k')
 | 0, k', _ => fun f a m r e => by simp [aS] at e
 | k + 1, 0, h => by omega
 | k + 1, k' + 1, h => fun f a m r e => by
  simp only [aS] at e ⊢
  cases hT : T f with
  | none => simp [hT] at e
  | some x =>
   simp only [hT] at e ⊢
   cases x with
   | go F => simp only [iq] at e ⊢; exact oP (kB T k k' (by omega)) (by omega) e
   | ext g => exact e
   | pure g => exact e
   | spec g => exact e
   | NA F D => simp only [iq] at e ⊢; exact EL (kB T k k' (by omega)) (by omega) e
mutual
def Flat : EV -> Bool
 | .ptr _ _ | .slice _ _ _ _ | .map _ | .fz _ _ _ | .fF _ _ _ _ => false
 | .func _ x y => fq x && fq y
 | .iface _ v => Flat v
 | .agg x | .tuple x => fq x
 | _ => true
def fq : List EV -> Bool
 | [] => true
 | v :: x => Flat v && fq x
end
mutual
theorem VR.flat {ρ ρ' : ep} : ∀ {v : EV} {v' : Value}, VR ρ v v' -> Flat v = true -> VR ρ' v v'
 | _, _, .undef, _ => .undef
 | _, _, .bool b, _ => .bool b
 | _, _, .int k n, _ => .int k n
 | _, _, .str s, _ => .str s
 | _, _, .bL, _ => .bL
 | _, _, .ptr _, h => by simp [Flat] at h
 | _, _, .ae, _ => .ae
 | _, _, .slice _ _ _ _, h => by simp [Flat] at h
 | _, _, .fD _ _ _, h => by simp [Flat] at h
 | _, _, .gJ, h => by simp [Flat] at h
 | _, _, .bB, _ => .bB
 | _, _, .map _, h => by simp [Flat] at h
 | _, _, .aN, _ => .aN
 | _, _, .func hx hy, h => by simp only [Flat, pC] at h; exact .func (ft.flat hx h.1) (ft.flat hy h.2)
 | _, _, .aC, _ => .aC
 | _, _, .iface hv, h => .iface (VR.flat hv (by simpa only [Flat] using h))
 | _, _, .agg hx hf, h => .agg (ft.flat hx (by simpa only [Flat] using h)) hf
 | _, _, .tuple hx, h => .tuple (ft.flat hx (by simpa only [Flat] using h))
theorem ft.flat {ρ ρ' : ep} : ∀ {x : List EV} {x' : List Value}, ft ρ x x' -> fq x = true -> ft ρ' x x'
 | _, _, .nil, _ => .nil
 | _, _, .cons hv hs, h => by simp only [fq, pC] at h; exact .cons (VR.flat hv h.1) (ft.flat hs h.2)
end
theorem VR.SK {ρ ρ' : ep} {s : List UInt8} {v' : Value} (h : VR ρ' (.str s) v') : VR ρ (.str s) v' := by
 generalize hx : EV.str s = x at h
 cases h <;> cases hx
 exact .str _
theorem VR.Qu {ρ ρ' : ep} {b off : Nat} {v' : Value} (h : VR ρ' (.slice b off 0 (some 0)) v') : VR ρ (.slice b off 0 (some 0)) v' := by
 cases h with
 | gJ => exact .gJ
 | fD h' hc ho => exact .gJ
mutual
theorem VR.back {ρ ρ' : ep} (e : Ext ρ ρ') : ∀ {v : EV} {u v' : Value}, VR ρ v u -> VR ρ' v v' -> VR ρ v v'
 | _, _, _, .undef, h => by cases h; exact .undef
 | _, _, _, .bool _, h => by cases h; exact .bool _
 | _, _, _, .int _ _, h => by cases h; exact .int _ _
 | _, _, _, .str _, h => h.SK
 | _, _, _, .bL, h => by cases h; exact .bL
 | _, _, _, .ptr h, h2 => by cases h2 with | ptr h' => have := e _ _ h; rw [h'] at this; cases this; exact .ptr h
 | _, _, _, .ae, h => by cases h; exact .ae
 | _, _, _, .slice h _ _ _, h2 => by cases h2 with | slice h' hc ho hr => have := e _ _ h; rw [h'] at this; cases this; exact .slice h hc ho hr
 | _, _, _, .fD h _ _, h2 => by
  cases h2 with
  | fD h' hc ho => have := e _ _ h; rw [h'] at this; cases this; exact .fD h hc ho
  | gJ => exact .gJ
 | _, _, _, .gJ, h2 => h2.Qu
 | _, _, _, .bB, h => by cases h; exact .bB
 | _, _, _, .map h, h2 => by cases h2 with | map h' => have := e _ _ h; rw [h'] at this; cases this; exact .map h
 | _, _, _, .aN, h => by cases h; exact .aN
 | _, _, _, .func hx hy, h2 => by cases h2 with | func PA YH => exact .func (ft.back e hx PA) (ft.back e hy YH)
 | _, _, _, .aC, h => by cases h; exact .aC
 | _, _, _, .iface h, h2 => by cases h2 with | iface h' => exact .iface (VR.back e h h')
 | _, _, _, .agg h _, h2 => by cases h2 with | agg h' hf => exact .agg (ft.back e h h') hf
 | _, _, _, .tuple h, h2 => by cases h2 with | tuple h' => exact .tuple (ft.back e h h')
theorem ft.back {ρ ρ' : ep} (e : Ext ρ ρ') : ∀ {x : List EV} {u v : List Value}, ft ρ x u -> ft ρ' x v -> ft ρ x v
 | _, _, _, .nil, h => by cases h; exact .nil
 | _, _, _, .cons h hs, h2 => by cases h2 with | cons h' Hz => exact .cons (VR.back e h h') (ft.back e hs Hz)
end
def adC (g : List EV -> Mem -> Option EV) : List EV -> Mem -> Option Fin := fun args m => (g args m).map fun v => .ret v m
def up (T : Nat -> Option iz) (f : Nat) (e : iz) : Nat -> Option iz := fun g => bif g.beq f then some e else T g
end
section
open Classical in
noncomputable def Sq {α : Type} (g : Nat -> Option α) : Option α := if h : ∃ r, ∃ k, g k = some r then some (Classical.choose h) else none
def Fa {α : Type} (g : Nat -> Option α) : Prop := ∀ k k' r, k <= k' -> g k = some r -> g k' = some r
theorem Fa.SD {α : Type} {g : Nat -> Option α} (h : Fa g) {k k' : Nat} {r r' : α} (e : g k = some r) (e' : g k' = some r') : r = r' := by
 have h1 := h k (max k k') r (Nat.le_max_left _ _) e
 have h2 := h k' (max k k') r' (Nat.le_max_right _ _) e'
 rw [h1] at h2; cases h2; rfl
theorem qj {α : Type} {g : Nat -> Option α} (h : Fa g) {r : α} : Sq g = some r ↔ ∃ k, g k = some r := by
 unfold Sq
 constructor
 ·intro e
  split at e
  ·rename_i hx
   cases e
   exact Classical.choose_spec hx
  ·cases e
 ·rintro ⟨k, hk⟩
  have hx : ∃ r, ∃ k, g k = some r := ⟨r, k, hk⟩
  rw [dif_pos hx];obtain ⟨k', nH⟩ := Classical.choose_spec hx
  rw [h.SD hk nH]
theorem db {α : Type} {a b : Option α} (h : ∀ r, a = some r ↔ b = some r) : a = b := by
 cases b with
 | some y => exact (h y).2 rfl
 | none =>
  cases a with
  | none => rfl
  | some x => exact absurd ((h x).1 rfl) (by simp)
section
variable (T : Nat -> Option iz)
noncomputable def run (f : Nat) (args : List EV) (m : Mem) : Option Fin := Sq fun k => aS T k f args m
noncomputable def exec (c : aH) (fr : Fr) (m : Mem) : Option Out := Sq fun k => ao (aS T k) k c fr m
noncomputable def oj (l : List aY) (fr : Fr) (m : Mem) : Option Out := Sq fun k => gQ (aS T k) l fr m
noncomputable def kU (chk : List (Nat × Nat)) (B0 : Nat) (l : List aY) (i : Nat) (fr : Fr) (m : Mem) (sn : List (Nat × Mem)) (se : List Seen) : Option Out := Sq fun k => dG (aS T k) chk B0 l i fr m sn se
end
section
variable {T : Nat -> Option iz}
theorem Ee {f : Nat} {args : List EV} {m : Mem} : Fa fun k => aS T k f args m := fun k k' _ h e => kB T k k' h _ _ _ _ e
theorem ju {c : aH} {fr : Fr} {m : Mem} : Fa fun k => ao (aS T k) k c fr m := fun k k' _ h e => eY (kB T k k' h) h _ _ _ _ e
theorem Gf {l : List aY} {fr : Fr} {m : Mem} : Fa fun k => gQ (aS T k) l fr m := fun k k' _ h e => pn (kB T k k' h) _ _ _ _ e
theorem I9 {chk : List (Nat × Nat)} {B0 : Nat} {l : List aY} {i : Nat} {fr : Fr} {m : Mem} {sn : List (Nat × Mem)} {se : List Seen} : Fa fun k => dG (aS T k) chk B0 l i fr m sn se := fun k k' _ h e => jv (kB T k k' h) _ _ _ _ _ _ _ e
theorem mQ {f : Nat} {args : List EV} {m : Mem} {r : Fin} : run T f args m = some r ↔ ∃ k, aS T k f args m = some r := qj Ee
theorem cg {c : aH} {fr : Fr} {m : Mem} {r : Out} : exec T c fr m = some r ↔ ∃ k, ao (aS T k) k c fr m = some r := qj ju
theorem gj {l : List aY} {fr : Fr} {m : Mem} {r : Out} : oj T l fr m = some r ↔ ∃ k, gQ (aS T k) l fr m = some r := qj Gf
theorem fU {chk : List (Nat × Nat)} {B0 : Nat} {l : List aY} {i : Nat} {fr : Fr} {m : Mem} {sn : List (Nat × Mem)} {se : List Seen} {r : Out} : kU T chk B0 l i fr m sn se = some r ↔ ∃ k, dG (aS T k) chk B0 l i fr m sn se = some r := qj I9
theorem rS {fr : Fr} {m : Mem} : exec T .skip fr m = some (.norm fr m) := cg.2 ⟨0, rfl⟩
theorem va {fr : Fr} {m : Mem} : exec T .ret fr m = some (.ret fr m) := cg.2 ⟨0, rfl⟩
theorem rT {id : Nat} {fr : Fr} {m : Mem} : exec T (.exit id) fr m = some (.exit id fr m) := cg.2 ⟨0, rfl⟩
theorem nA {l : List aY} {fr : Fr} {m : Mem} : exec T (.region l) fr m = oj T l fr m := rfl
theorem O5 {l : List aY} {chk : List (Nat × Nat)} {fr : Fr} {m : Mem} : exec T (.draw l chk) fr m = kU T chk m.next l 0 fr ⟨m.next + l.length, m.gB⟩ [] [] := rfl
def l6 (o : Option Out) (k : Fr -> Mem -> Option Out) : Option Out := match o with
 | some (.norm fr m) => k fr m
 | o => o
theorem u9 {a b : aH} {fr : Fr} {m : Mem} : exec T (.seq a b) fr m = l6 (exec T a fr m) (exec T b) := by
 refine db fun r => ?_
 rw [cg]
 constructor
 ·rintro ⟨k, h⟩
  simp only [ao] at h
  cases ha : ao (aS T k) k a fr m with
  | none => simp [ha] at h
  | some o =>
   rw [cg.2 ⟨k, ha⟩];simp only [ha] at h
   cases o with
   | norm fT m1 => exact cg.2 ⟨k, h⟩
   | exit id fT m1 => exact h
   | ret fT m1 => exact h
   | gD v fT m1 => exact h
 ·intro h
  cases ha : exec T a fr m with
  | none => simp [ha, l6] at h
  | some o =>
   obtain ⟨k1, h1⟩ := cg.1 ha
   simp only [ha, l6] at h
   cases o with
   | norm fT m1 =>
    obtain ⟨k2, h2⟩ := cg.1 h
    refine ⟨max k1 k2, ?_⟩
    simp only [ao];have e1 := ju _ _ _ (Nat.le_max_left k1 k2) h1
    have e2 := ju _ _ _ (Nat.le_max_right k1 k2) h2
    simp only at e1 e2
    rw [e1]; exact e2
   | exit id fT m1 => refine ⟨k1, ?_⟩; simp only [ao, h1]; exact h
   | ret fT m1 => refine ⟨k1, ?_⟩; simp only [ao, h1]; exact h
   | gD v fT m1 => refine ⟨k1, ?_⟩; simp only [ao, h1]; exact h
theorem GA {c : aV} {a b : aH} {fr : Fr} {m : Mem} {t : Bool} (h : fr.eval c = .bool t) : exec T (.cond c a b) fr m = bif t then exec T a fr m else exec T b fr m := by
 refine db fun r => ?_
 rw [cg];simp only [ao, h]
 cases t
 ·simp only [cond_false]; exact cg.symm
 ·simp only [cond_true]; exact cg.symm
def pf (id : Nat) (o : Option Out) : Option Out := match o with
 | some (.exit j fr m) => bif j.beq id then some (.norm fr m) else some (.exit j fr m)
 | o => o
theorem pj {id : Nat} {a : aH} {fr : Fr} {m : Mem} : exec T (.block id a) fr m = pf id (exec T a fr m) := by
 refine db fun r => ?_
 rw [cg]
 constructor
 ·rintro ⟨k, h⟩
  simp only [ao] at h
  cases ha : ao (aS T k) k a fr m with
  | none => simp [ha] at h
  | some o => rw [cg.2 ⟨k, ha⟩]; rw [ha] at h; exact h
 ·intro h
  cases ha : exec T a fr m with
  | none => simp [ha, pf] at h
  | some o =>
   obtain ⟨k1, h1⟩ := cg.1 ha
   rw [ha] at h;refine ⟨k1, ?_⟩; simp only [ao, h1]; exact h
theorem eP {a : aH} {fr : Fr} {m : Mem} : exec T (.loop a) fr m = l6 (exec T a fr m) (exec T (.loop a)) := by
 refine db fun r => ?_
 rw [cg]
 constructor
 ·rintro ⟨k, h⟩
  simp only [ao] at h
  cases k with
  | zero => simp [iter] at h
  | succ k =>
   have h' : (match ao (aS T (k + 1)) (k + 1) a fr m with | some (.norm fr m) => iter (ao (aS T (k + 1)) (k + 1) a) k fr m | o => o) = some r := by
    rw [<- h]; rfl
   cases ha : ao (aS T (k + 1)) (k + 1) a fr m with
   | none => simp [ha] at h'
   | some o =>
    rw [cg.2 ⟨k + 1, ha⟩];simp only [ha] at h'
    cases o with
    | norm fT m1 =>
     refine cg.2 ⟨k + 1, ?_⟩
     simp only [ao];exact zb (fun fr m r e => e) k (k + 1) (by omega) _ _ _ h'
    | exit id fT m1 => exact h'
    | ret fT m1 => exact h'
    | gD v fT m1 => exact h'
 ·intro h
  cases ha : exec T a fr m with
  | none => simp [ha, l6] at h
  | some o =>
   obtain ⟨k1, h1⟩ := cg.1 ha
   simp only [ha, l6] at h;have key : ∀ k2, (∀ r1, iter (ao (aS T k2) k2 a) k2 fr m = some r1 -> True) -> True := fun _ _ => trivial
   cases o with
   | norm fT m1 =>
    obtain ⟨k2, h2⟩ := cg.1 h
    simp only [ao] at h2;refine ⟨max k1 k2 + 1, ?_⟩
    have e1 := ju _ _ _ (show k1 <= max k1 k2 + 1 by omega) h1
    simp only at e1
    simp only [ao, iter, e1];exact zb (fun fr m r e => eY (kB T k2 (max k1 k2 + 1) (by omega)) (by omega) a fr m r e) k2 (max k1 k2) (by omega) _ _ _ h2
   | exit id fT m1 =>
    refine ⟨k1 + 1, ?_⟩
    have e1 := ju _ _ _ (show k1 <= k1 + 1 by omega) h1
    simp only at e1
    simp only [ao, iter, e1]; exact h
   | ret fT m1 =>
    refine ⟨k1 + 1, ?_⟩
    have e1 := ju _ _ _ (show k1 <= k1 + 1 by omega) h1
    simp only at e1
    simp only [ao, iter, e1]; exact h
   | gD v fT m1 =>
    refine ⟨k1 + 1, ?_⟩
    have e1 := ju _ _ _ (show k1 <= k1 + 1 by omega) h1
    simp only at e1
    simp only [ao, iter, e1]; exact h
theorem uK {fr : Fr} {m : Mem} : oj T [] fr m = some (.norm fr m) := gj.2 ⟨0, rfl⟩
def gA (o : Option R1) (k : EV -> Mem -> Option Out) : Option Out := match o with
 | some (.val v m) => k v m
 | none => none
def pO (o : Option Fin) (fr : Fr) (k : EV -> Mem -> Option Out) : Option Out := match o with
 | some (.ret v m) => k v m
 | some (.gD v m) => some (.gD v fr m)
 | none => none
theorem rA {d : Option Nat} {op : ls} {l : List aY} {fr : Fr} {m : Mem} : oj T (⟨d, .val op, none⟩ :: l) fr m = gA (aA fr.eval op m) fun v m => oj T l (fr.put d v) m := by
 refine db fun r => ?_
 rw [gj];simp only [gQ, bf]
 cases h : aA fr.eval op m with
 | none => simp [gA]
 | some q => obtain ⟨v, m1⟩ := q; simp only [gA]; exact gj.symm
theorem KY {d : Option Nat} {op : Aq} {t : Nat} {w : Bool} {l : List aY} {fr : Fr} {m : Mem} {b : Bool} (h : fr.get t = .bool b) :
  oj T (⟨d, op, some (t, w)⟩ :: l) fr m = bif b == w then oj T (⟨d, op, none⟩ :: l) fr m else oj T l (fr.put d .undef) m := by
 refine db fun r => ?_
 rw [gj];simp only [gQ, bf, h]
 cases hb : b == w
 ·simp only [cond_false]; exact gj.symm
 ·simp only [cond_true]
  rw [gj];simp only [gQ, bf]
theorem KX {d : Option Nat} {x : aV} {l : List aY} {fr : Fr} {m : Mem} {t : Nat} {v : EV} (h : fr.eval x = .iface t v) : oj T (⟨d, .panic x, none⟩ :: l) fr m = some (.gD (.iface t v) fr m) := by
 refine gj.2 ⟨0, ?_⟩
 simp only [gQ, bf, h]
def sR (F : ax) (o : Option Out) : Option Fin := match o with
 | some (.norm fr m) | some (.ret fr m) => match fr.defers with
  | [] => (bN fr m F.results).map fun vs => .ret (one vs) m
  | _ => none
 | some (.gD v fr m) => match fr.defers with
  | [] => some (.gD v m)
  | _ => none
 | _ => none
theorem Qb {f : Nat} {F : ax} (hf : T f = some (.go F)) {args : List EV} {m : Mem} (hn : args.length <= F.ntmps) : run T f args m = sR F (exec T F.body ⟨cJ args 0 .leaf, []⟩ m) := by
 have hb : args.length.ble F.ntmps = true := A8 hn
 refine db fun r => ?_
 rw [mQ]
 constructor
 ·rintro ⟨k, h⟩
  cases k with
  | zero => simp [aS] at h
  | succ k =>
   simp only [aS, hf, iq, dr, hb, cond_true] at h
   cases hc : ao (aS T k) k F.body ⟨cJ args 0 .leaf, []⟩ m with
   | none => simp [hc] at h
   | some o =>
    rw [cg.2 ⟨k, hc⟩];simp only [hc] at h
    cases o <;> exact h
 ·intro h
  cases hc : exec T F.body ⟨cJ args 0 .leaf, []⟩ m with
  | none => simp [hc, sR] at h
  | some o =>
   obtain ⟨k, hk⟩ := cg.1 hc
   rw [hc] at h;refine ⟨k + 1, ?_⟩
   simp only [aS, hf, iq, dr, hb, cond_true, hk]
   cases o <;> exact h
theorem G7 {f : Nat} {g : List EV -> Option EV} (hf : T f = some (.ext g)) {args : List EV} {m : Mem} : run T f args m = (g args).map fun v => .ret v m := by
 refine db fun r => ?_
 rw [mQ]
 constructor
 ·rintro ⟨k, h⟩
  cases k with
  | zero => simp [aS] at h
  | succ k => simpa only [aS, hf, iq] using h
 ·intro h; exact ⟨1, by simpa only [aS, hf, iq] using h⟩
theorem ru {f : Nat} {g : List EV -> Mem -> Option Fin} (hf : T f = some (.spec g)) {args : List EV} {m : Mem} : run T f args m = g args m := by
 refine db fun r => ?_
 rw [mQ]
 constructor
 ·rintro ⟨k, h⟩
  cases k with
  | zero => simp [aS] at h
  | succ k => simpa only [aS, hf, iq] using h
 ·intro h; exact ⟨1, by simpa only [aS, hf, iq] using h⟩
theorem run_pure {f : Nat} {g : List EV -> Option EV} (hf : T f = some (.pure g)) {args : List EV} {m : Mem} : run T f args m = (g args).map fun v => .ret v m := by
 refine db fun r => ?_
 rw [mQ]
 constructor
 ·rintro ⟨k, h⟩
  cases k with
  | zero => simp [aS] at h
  | succ k => simpa only [aS, hf, iq] using h
 ·intro h; exact ⟨1, by simpa only [aS, hf, iq] using h⟩
section
variable (T)
noncomputable def J8 (F : ax) (args : List EV) (m : Mem) : Option Fin := Sq fun k => dr (aS T k) k F args m
noncomputable def H4 (d : Nat) (F : ax) (args : List EV) (u : Option EV) (m : Mem) : Option Mem := Sq fun k => fC (aS T k) k d F args u m
noncomputable def mE (rs : List lV) (D : List (Nat × Option Nat × ax)) (fr : Fr) (ds : List (Nat × List EV)) (u : Option EV) (m : Mem) : Option Fin := Sq fun k => cN (aS T k) k rs D fr ds u m
end
theorem xH {F : ax} {args : List EV} {m : Mem} : Fa fun k => dr (aS T k) k F args m := fun k k' _ h e => oP (kB T k k' h) h e
theorem Bk {d : Nat} {F : ax} {args : List EV} {u : Option EV} {m : Mem} : Fa fun k => fC (aS T k) k d F args u m := fun k k' _ h e => xT (kB T k k' h) h e
theorem qh {rs : List lV} {D : List (Nat × Option Nat × ax)} {fr : Fr} {ds : List (Nat × List EV)} {u : Option EV} {m : Mem} : Fa fun k => cN (aS T k) k rs D fr ds u m := fun k k' _ h e => ib (kB T k k' h) h _ _ _ _ e
theorem A4 {F : ax} {args : List EV} {m : Mem} {r : Fin} : J8 T F args m = some r ↔ ∃ k, dr (aS T k) k F args m = some r := qj xH
theorem xZ {d : Nat} {F : ax} {args : List EV} {u : Option EV} {m : Mem} {r : Mem} : H4 T d F args u m = some r ↔ ∃ k, fC (aS T k) k d F args u m = some r := qj Bk
theorem fu {rs : List lV} {D : List (Nat × Option Nat × ax)} {fr : Fr} {ds : List (Nat × List EV)} {u : Option EV} {m : Mem} {r : Fin} : mE T rs D fr ds u m = some r ↔ ∃ k, cN (aS T k) k rs D fr ds u m = some r := qj qh
theorem R3 {F : ax} {args : List EV} {m : Mem} (hn : args.length <= F.ntmps) : J8 T F args m = sR F (exec T F.body ⟨cJ args 0 .leaf, []⟩ m) := by
 have hb : args.length.ble F.ntmps = true := A8 hn
 refine db fun r => ?_
 rw [A4]
 constructor
 ·rintro ⟨k, h⟩
  simp only [dr, hb, cond_true] at h
  cases hc : ao (aS T k) k F.body ⟨cJ args 0 .leaf, []⟩ m with
  | none => simp [hc] at h
  | some o =>
   rw [cg.2 ⟨k, hc⟩];simp only [hc] at h
   cases o <;> exact h
 ·intro h
  cases hc : exec T F.body ⟨cJ args 0 .leaf, []⟩ m with
  | none => simp [hc, sR] at h
  | some o =>
   obtain ⟨k, hk⟩ := cg.1 hc
   rw [hc] at h;refine ⟨k, ?_⟩
   simp only [dr, hb, cond_true, hk]
   cases o <;> exact h
def SS (rs : List lV) (o : Option Out) : Option Mem := match o with
 | some (.norm fr m) => match fr.defers with
  | [] => (bN fr m rs).map fun _ => m
  | _ => none
 | some (.ret fr m) => match fr.defers with
  | [] => (bN fr m rs).map fun _ => m
  | _ => none
 | _ => none
theorem Pm {d : Nat} {F : ax} {args : List EV} {u : Option EV} {m : Mem} (hn : args.length <= F.ntmps) : H4 T d F args u m = SS F.results (exec T F.body (Fr.set ⟨cJ args 0 .leaf, []⟩ d (u.getD .aC)) m) := by
 have hb : args.length.ble F.ntmps = true := A8 hn
 refine db fun r => ?_
 rw [xZ]
 constructor
 ·rintro ⟨k, h⟩
  simp only [fC, hb, cond_true] at h
  cases hc : ao (aS T k) k F.body (Fr.set ⟨cJ args 0 .leaf, []⟩ d (u.getD .aC)) m with
  | none => simp [hc] at h
  | some o =>
   rw [cg.2 ⟨k, hc⟩];simp only [hc] at h
   cases o <;> exact h
 ·intro h
  cases hc : exec T F.body (Fr.set ⟨cJ args 0 .leaf, []⟩ d (u.getD .aC)) m with
  | none => simp [hc, SS] at h
  | some o =>
   obtain ⟨k, hk⟩ := cg.1 hc
   rw [hc] at h;refine ⟨k, ?_⟩
   simp only [fC, hb, cond_true, hk]
   cases o <;> exact h
theorem Ll {rs : List lV} {D : List (Nat × Option Nat × ax)} {fr : Fr} {m : Mem} : mE T rs D fr [] none m = (bN fr m rs).map fun vs => .ret (one vs) m := by
 refine db fun r => ?_
 rw [fu];simp only [cN, exists_const]
theorem Lk {rs : List lV} {D : List (Nat × Option Nat × ax)} {fr : Fr} {v : EV} {m : Mem} : mE T rs D fr [] (some v) m = some (.gD v m) := by
 refine db fun r => ?_
 rw [fu];simp only [cN, exists_const]
theorem Lj {rs : List lV} {D : List (Nat × Option Nat × ax)} {fr : Fr} {g d : Nat} {F : ax} {args : List EV} {ds : List (Nat × List EV)} {u : Option EV} {m : Mem} (hd : mh g D = some (some d, F)) :
  mE T rs D fr ((g, args) :: ds) u m = (H4 T d F args u m).bind fun m => mE T rs D fr ds none m := by
 refine db fun r => ?_
 rw [fu];simp only [cN, hd]
 constructor
 ·rintro ⟨k, h⟩
  cases hb : fC (aS T k) k d F args u m with
  | none => simp [hb] at h
  | some m1 =>
   simp only [hb] at h;rw [xZ.2 ⟨k, hb⟩];exact fu.2 ⟨k, h⟩
 ·intro h
  obtain ⟨m1, h1, h2⟩ := Option.bind_eq_some_iff.1 h
  obtain ⟨k1, e1⟩ := xZ.1 h1
  obtain ⟨k2, e2⟩ := fu.1 h2
  refine ⟨max k1 k2, ?_⟩
  have g1 := Bk _ _ _ (Nat.le_max_left k1 k2) e1
  have g2 := qh _ _ _ (Nat.le_max_right k1 k2) e2
  simp only at g1 g2
  simp only [g1]; exact g2
def QS (u : Option EV) (k : Option EV -> Mem -> Option Fin) : Option Fin -> Option Fin
 | some (.ret _ m) => k u m
 | some (.gD v m) => match u with
  | none => k (some v) m
  | some _ => none
 | none => none
theorem Je {rs : List lV} {D : List (Nat × Option Nat × ax)} {fr : Fr} {g : Nat} {F : ax} {args : List EV} {ds : List (Nat × List EV)} {u : Option EV} {m : Mem} (hd : mh g D = some (none, F)) :
  mE T rs D fr ((g, args) :: ds) u m = QS u (fun u m => mE T rs D fr ds u m) (J8 T F args m) := by
 refine db fun r => ?_
 rw [fu];simp only [cN, hd]
 constructor
 ·rintro ⟨k, h⟩
  cases hb : dr (aS T k) k F args m with
  | none => simp [hb] at h
  | some fin =>
   simp only [hb] at h;rw [A4.2 ⟨k, hb⟩]
   cases fin with
   | ret v m1 => exact fu.2 ⟨k, h⟩
   | gD v m1 =>
    cases u with
    | none => exact fu.2 ⟨k, h⟩
    | some x => cases h
 ·intro h
  cases hb : J8 T F args m with
  | none => simp [hb, QS] at h
  | some fin =>
   obtain ⟨k1, e1⟩ := A4.1 hb
   rw [hb] at h;have AT : ∀ {u2 : Option EV} {m2 : Mem}, mE T rs D fr ds u2 m2 = some r -> ∃ k2, k1 <= k2 /\ cN (aS T k2) k2 rs D fr ds u2 m2 = some r := fun e => by
    obtain ⟨k2, e2⟩ := fu.1 e
    exact ⟨max k1 k2, Nat.le_max_left _ _, qh _ _ _ (Nat.le_max_right k1 k2) e2⟩
   cases fin with
   | ret v m1 =>
    obtain ⟨k2, hk, e2⟩ := AT h
    have g1 := xH _ _ _ hk e1
    simp only at g1
    exact ⟨k2, by simp only [g1]; exact e2⟩
   | gD v m1 =>
    cases u with
    | none =>
     obtain ⟨k2, hk, e2⟩ := AT h
     have g1 := xH _ _ _ hk e1
     simp only at g1
     exact ⟨k2, by simp only [g1]; exact e2⟩
    | some x => cases h
noncomputable def WY (T : Nat -> Option iz) (rs : List lV) (D : List (Nat × Option Nat × ax)) (o : Option Out) : Option Fin := match o with
 | some (.norm fr m) => mE T rs D fr fr.defers none m
 | some (.ret fr m) => mE T rs D fr fr.defers none m
 | some (.gD v fr m) => mE T rs D fr fr.defers (some v) m
 | _ => none
theorem SQ {f : Nat} {F : ax} {D : List (Nat × Option Nat × ax)} (hf : T f = some (.NA F D)) {args : List EV} {m : Mem} (hn : args.length <= F.ntmps) : run T f args m = WY T F.results D (exec T F.body ⟨cJ args 0 .leaf, []⟩ m) := by
 have hb : args.length.ble F.ntmps = true := A8 hn
 refine db fun r => ?_
 rw [mQ]
 constructor
 ·rintro ⟨k, h⟩
  cases k with
  | zero => simp [aS] at h
  | succ k =>
   simp only [aS, hf, iq, jn, hb, cond_true] at h
   cases hc : ao (aS T k) k F.body ⟨cJ args 0 .leaf, []⟩ m with
   | none => simp [hc] at h
   | some o =>
    rw [cg.2 ⟨k, hc⟩];simp only [hc] at h
    cases o with
    | norm fr m1 => exact fu.2 ⟨k, h⟩
    | ret fr m1 => exact fu.2 ⟨k, h⟩
    | gD v fr m1 => exact fu.2 ⟨k, h⟩
    | exit id fr m1 => cases h
 ·intro h
  cases hc : exec T F.body ⟨cJ args 0 .leaf, []⟩ m with
  | none => simp [hc, WY] at h
  | some o =>
   obtain ⟨k1, e1⟩ := cg.1 hc
   rw [hc] at h;have AT : ∀ {fr : Fr} {ds : List (Nat × List EV)} {u2 : Option EV} {m2 : Mem}, mE T F.results D fr ds u2 m2 = some r -> ∃ k2, k1 <= k2 /\ cN (aS T k2) k2 F.results D fr ds u2 m2 = some r := fun e => by
    obtain ⟨k2, e2⟩ := fu.1 e
    exact ⟨max k1 k2, Nat.le_max_left _ _, qh _ _ _ (Nat.le_max_right k1 k2) e2⟩
   cases o with
   | exit id fr m1 => cases h
   | norm fr m1 =>
    obtain ⟨k2, hk, e2⟩ := AT h
    have g1 := ju _ _ _ hk e1
    simp only at g1
    exact ⟨k2 + 1, by simp only [aS, hf, iq, jn, hb, cond_true, g1]; exact e2⟩
   | ret fr m1 =>
    obtain ⟨k2, hk, e2⟩ := AT h
    have g1 := ju _ _ _ hk e1
    simp only at g1
    exact ⟨k2 + 1, by simp only [aS, hf, iq, jn, hb, cond_true, g1]; exact e2⟩
   | gD v fr m1 =>
    obtain ⟨k2, hk, e2⟩ := AT h
    have g1 := ju _ _ _ hk e1
    simp only at g1
    exact ⟨k2 + 1, by simp only [aS, hf, iq, jn, hb, cond_true, g1]; exact e2⟩
end
end
section
def ph : Fr := ⟨.leaf, []⟩
theorem lO (t : Nat) : ph.get t = .undef := by unfold Fr.get ph; simp only [Tr.zp]; rfl
theorem nz : ph.defers = [] := rfl
def KK (b : Bool) (v r : EV) : EV := bif b then v else r
@[congr] theorem UY {b b' : Bool} {v r : EV} (h : b = b') : KK b v r = KK b' v r := by rw [h]
theorem DX {v r : EV} : KK true v r = v := rfl
theorem u4 (fr : Fr) (d t : Nat) (v : EV) : (fr.set d v).get t = KK (t == d) v (fr.get t) := by
 rw [Fr.bW];by_cases h : t = d
 ·simp [KK, h]
 ·simp [KK, h, beq_eq_false_iff_ne.2 h]
theorem DY {v r : EV} : KK false v r = r := rfl
def aa : List EV -> Nat -> Fr -> Fr
 | [], _, fr => fr
 | v :: r, i, fr => aa r (i + 1) (fr.set i v)
theorem Ag : ∀ (l : List EV) (i : Nat) (t : Tr EV), aa l i ⟨t, []⟩ = ⟨cJ l i t, []⟩
 | [], i, t => rfl
 | v :: l, i, t => by simp only [aa, cJ, Fr.set]; exact Ag l (i + 1) _
theorem uI (fr : Fr) (d : Nat) (v : EV) : fr.put (some d) v = fr.set d v := rfl
theorem uJ (fr : Fr) (v : EV) : fr.put none v = fr := rfl
theorem oX (fr : Fr) (d : Nat) (v : EV) : (fr.set d v).defers = fr.defers := rfl
theorem zG (fr : Fr) (t : Nat) : fr.eval (.tmp t) = fr.get t := rfl
theorem eval_const (fr : Fr) (v : EV) : fr.eval (.const v) = v := rfl
theorem wg (m : Mem) (v : EV) : gl m (some v) = some (.val v m) := rfl
theorem wh (m : Mem) (v : EV) : w8 (some (v, m)) = some (.val v m) := rfl
theorem yS (m : Mem) : ofM (some m) = some (.val .undef m) := rfl
@[congr] theorem T6 {o o' : Option R1} {k : EV -> Mem -> Option Out} (h : o = o') : gA o k = gA o' k := by rw [h]
@[congr] theorem Uc {o o' : Option Fin} {fr : Fr} {k : EV -> Mem -> Option Out} (h : o = o') : pO o fr k = pO o' fr k := by rw [h]
@[congr] theorem Ua {o o' : Option Out} {k : Fr -> Mem -> Option Out} (h : o = o') : l6 o k = l6 o' k := by rw [h]
theorem su {v : EV} {m : Mem} {k : EV -> Mem -> Option Out} : gA (some (.val v m)) k = k v m := rfl
theorem vC {v : EV} {m : Mem} {fr : Fr} {k : EV -> Mem -> Option Out} : pO (some (.ret v m)) fr k = k v m := rfl
theorem sx {fr : Fr} {m : Mem} {k : Fr -> Mem -> Option Out} : l6 (some (.norm fr m)) k = k fr m := rfl
theorem vA {fr : Fr} {m : Mem} {k : Fr -> Mem -> Option Out} : l6 (some (.ret fr m)) k = some (.ret fr m) := rfl
theorem sy {id : Nat} {fr : Fr} {m : Mem} {k : Fr -> Mem -> Option Out} : l6 (some (.exit id fr m)) k = some (.exit id fr m) := rfl
theorem s9 {id : Nat} {fr : Fr} {m : Mem} : pf id (some (.norm fr m)) = some (.norm fr m) := rfl
theorem wu {id : Nat} {fr : Fr} {m : Mem} : pf id (some (.ret fr m)) = some (.ret fr m) := rfl
def KJ (b : Bool) (x y : Option Out) : Option Out := bif b then x else y
@[congr] theorem UX {b b' : Bool} {x y : Option Out} (h : b = b') : KJ b x y = KJ b' x y := by rw [h]
theorem G0 {x y : Option Out} : KJ true x y = x := rfl
theorem G3 {x y : Option Out} : KJ false x y = y := rfl
theorem ta {id j : Nat} {fr : Fr} {m : Mem} : pf id (some (.exit j fr m)) = KJ (j == id) (some (.norm fr m)) (some (.exit j fr m)) := by
 by_cases h : j = id
 ·subst h; simp [pf, KJ]
 ·simp [pf, KJ, jP h, beq_eq_false_iff_ne.2 h]
def pF (rs : List lV) (o : Option Out) : Option Fin := match o with
 | some (.norm fr m) | some (.ret fr m) => match fr.defers with
  | [] => (bN fr m rs).map fun vs => .ret (one vs) m
  | _ => none
 | some (.gD v fr m) => match fr.defers with
  | [] => some (.gD v m)
  | _ => none
 | _ => none
theorem Ha (F : ax) (o : Option Out) : sR F o = pF F.results o := by cases o with | none => rfl | some o => cases o <;> rfl
theorem yG {rs : List lV} {fr : Fr} {m : Mem} : pF rs (some (.ret fr m)) = match fr.defers with | [] => (bN fr m rs).map fun vs => .ret (one vs) m | _ => none := rfl
theorem vW {rs : List lV} {fr : Fr} {m : Mem} : pF rs (some (.norm fr m)) = match fr.defers with | [] => (bN fr m rs).map fun vs => .ret (one vs) m | _ => none := rfl
theorem yH {rs : List lV} {fr : Fr} {m : Mem} {v : EV} : pF rs (some (.gD v fr m)) = match fr.defers with | [] => some (.gD v m) | _ => none := rfl
theorem Ci {fr : Fr} {m : Mem} : bN fr m [] = some [] := rfl
theorem Ch {fr : Fr} {m : Mem} {t : Nat} {rs : List lV} : bN fr m (.tmp t :: rs) = (bN fr m rs).map (fr.get t :: ·) := rfl
theorem Co (v : EV) : one [v] = v := rfl
theorem Cn (v u : EV) (l : List EV) : one (v :: u :: l) = .tuple (v :: u :: l) := rfl
theorem Cp : one [] = .tuple [] := rfl
section
variable {k l : IntKind} {a b : Int}
def Xh (k : IntKind) (x y : Int) : Int := k.wrap (BitVec.ofInt k.bits x &&& BitVec.ofInt k.bits y).toNat
def ior (k : IntKind) (x y : Int) : Int := k.wrap (BitVec.ofInt k.bits x ||| BitVec.ofInt k.bits y).toNat
def Xd (k : IntKind) (x y : Int) : Int := k.wrap (BitVec.ofInt k.bits x ^^^ BitVec.ofInt k.bits y).toNat
def MR (k : IntKind) (x y : Int) : Int := k.wrap (BitVec.ofInt k.bits x &&& ~~~BitVec.ofInt k.bits y).toNat
theorem Dy : ef .add (.int k a) (.int k b) = some (.int k (k.wrap (a + b))) := by simp only [ef, dM, cond_true, nB]
theorem Dn : ef .sub (.int k a) (.int k b) = some (.int k (k.wrap (a - b))) := by simp only [ef, dM, cond_true, nB]
theorem Dr : ef .mul (.int k a) (.int k b) = some (.int k (k.wrap (a * b))) := by simp only [ef, dM, cond_true, nB]
theorem Dq : ef .quo (.int k a) (.int k b) = if b = 0 then none else some (.int k (k.wrap (a.tdiv b))) := by simp only [ef, dM, cond_true, nB]
theorem Dp : ef .rem (.int k a) (.int k b) = if b = 0 then none else some (.int k (a.tmod b)) := by simp only [ef, dM, cond_true, nB]
theorem Dx : ef .and (.int k a) (.int k b) = some (.int k (Xh k a b)) := by simp only [ef, dM, cond_true, nB, qY, Option.map_some, Xh]
theorem H5 : ef .or (.int k a) (.int k b) = some (.int k (ior k a b)) := by simp only [ef, dM, cond_true, nB, qY, Option.map_some, ior]
theorem Dm : ef .xor (.int k a) (.int k b) = some (.int k (Xd k a b)) := by simp only [ef, dM, cond_true, nB, qY, Option.map_some, Xd]
theorem tV : ef .andNot (.int k a) (.int k b) = some (.int k (MR k a b)) := by simp only [ef, dM, cond_true, nB, qY, Option.map_some, MR]
theorem Ds : ef .lss (.int k a) (.int k b) = some (.bool (decide (a < b))) := by simp only [ef, dM, cond_true, nB]
theorem Du : ef .leq (.int k a) (.int k b) = some (.bool (decide (a <= b))) := by simp only [ef, dM, cond_true, nB]
theorem Dv : ef .gtr (.int k a) (.int k b) = some (.bool (decide (b < a))) := by simp only [ef, dM, cond_true, nB]
theorem Dw : ef .geq (.int k a) (.int k b) = some (.bool (decide (b <= a))) := by simp only [ef, dM, cond_true, nB]
theorem NH : ef .shl (.int k a) (.int l b) = if b < 0 then none else some (.int k (k.wrap (a * 2 ^ min b.toNat k.bits))) := by simp only [ef, tz]
theorem NG : ef .shr (.int k a) (.int l b) = if b < 0 then none else some (.int k (a.fdiv (2 ^ min b.toNat k.bits))) := by simp only [ef, tz]
theorem qM (h1 : 0 <= b) (h2 : b < 64) : ef .shl (.int .i64 a) (.int l b) = some (.int .i64 (IntKind.i64.wrap (a * 2 ^ b.toNat))) := by
 rw [NH, if_neg (by omega), show IntKind.i64.bits = 64 from rfl, Nat.min_eq_left (by omega)]
theorem qK (h1 : 0 <= b) (h2 : b < 64) : ef .shr (.int .i64 a) (.int l b) = some (.int .i64 (a.fdiv (2 ^ b.toNat))) := by
 rw [NG, if_neg (by omega), show IntKind.i64.bits = 64 from rfl, Nat.min_eq_left (by omega)]
theorem qL (h1 : 0 <= b) (h2 : b < 64) : ef .shl (.int .u64 a) (.int l b) = some (.int .u64 (IntKind.u64.wrap (a * 2 ^ b.toNat))) := by
 rw [NH, if_neg (by omega), show IntKind.u64.bits = 64 from rfl, Nat.min_eq_left (by omega)]
theorem qJ (h1 : 0 <= b) (h2 : b < 64) : ef .shr (.int .u64 a) (.int l b) = some (.int .u64 (a.fdiv (2 ^ b.toNat))) := by
 rw [NG, if_neg (by omega), show IntKind.u64.bits = 64 from rfl, Nat.min_eq_left (by omega)]
theorem TX {a b : List UInt8} : ef .add (.str a) (.str b) = bif (a.length + b.length).ble 4294967296 then some (.str (a ++ b)) else none := rfl
theorem eq_int : eH (.aJ 1) (.int k a) (.int k b) = some (decide (a = b)) := by simp only [eH, dK, dM, cond_true]
theorem GR : EI .neg (.int k a) = some (.int k (k.wrap (0 - a))) := rfl
theorem HX {m : Mem} : kT (.int l) m (.int k a) = some (.int l (l.wrap a), m) := rfl
end
theorem zI {ρ : aV -> EV} {m : Mem} (x : aV) : aA ρ (.ab x) m = some (.val (ρ x) m) := rfl
theorem tH {ρ : aV -> EV} {m : Mem} (zero : List EV) (parts : List (Nat × Nat × aV)) : aA ρ (.build zero parts) m = gl m ((fw zero (parts.map fun p => (p.1, p.2.1, ρ p.2.2))).map .agg) := rfl
theorem wD {ρ : aV -> EV} {m : Mem} (agg : Option Nat) (a : aV) : aA ρ (.load agg a) m = gl m (m.load agg (ρ a)) := rfl
theorem tA {ρ : aV -> EV} {m : Mem} (size : Nat) (a x : aV) : aA ρ (.store size a x) m = ofM (m.store size (ρ a) (ρ x)) := rfl
theorem tE {ρ : aV -> EV} {m : Mem} (x : aV) : aA ρ (.cw x) m = match ρ x with
  | .ptr b off => some (.val (.ptr b off) m)
  | .func f a c => some (.val (.func f a c) m)
  | .iface t v => some (.val (.iface t v) m)
  | .fF e els i k => some (.val (.fF e els i k) m)
  | _ => none := rfl
theorem zN {ρ : aV -> EV} {m : Mem} (op : BinOp) (x y : aV) : aA ρ (.bin op x y) m = gl m (ef op (ρ x) (ρ y)) := rfl
theorem Db {ρ : aV -> EV} {m : Mem} (neg : Bool) (t : sd) (x y : aV) : aA ρ (.eq neg t x y) m = gl m ((eH t (ρ x) (ρ y)).map fun b => .bool (neg ^^ b)) := rfl
theorem Da {ρ : aV -> EV} {m : Mem} (op : UnOp) (x : aV) : aA ρ (.un op x) m = gl m (EI op (ρ x)) := rfl
theorem wG {ρ : aV -> EV} {m : Mem} (c : Cv) (x : aV) : aA ρ (.conv c x) m = w8 (kT c m (ρ x)) := rfl
theorem tF {ρ : aV -> EV} {m : Mem} (t : Nat) (x : aV) : aA ρ (.iface t x) m = some (.val (.iface t (ρ x)) m) := rfl
theorem wC {ρ : aV -> EV} {m : Mem} (f : Nat) (a c : List aV) : aA ρ (.BD f a c) m = some (.val (.func f (a.map ρ) (c.map ρ)) m) := rfl
theorem ow {ρ : aV -> EV} {m : Mem} (elem esz : Nat) (zero : List EV) (len cap : aV) : aA ρ (.lE elem esz zero len cap) m = match ρ len, ρ cap with
  | .int .i64 (.ofNat l), .int .i64 (.ofNat c) => bif (bif l.ble c then c.ble room else false) then
    some (.val (.slice m.next 0 l (some c)) (m.new (.cells (eA c zero) esz elem false))) else none
  | _, _ => none := rfl
theorem tB {ρ : aV -> EV} {m : Mem} (x : aV) (lo hi : Option aV) : aA ρ (.jF x lo hi) m = match ρ x with
  | .str s => match au (hi.map ρ) s.length s.length with
   | some h => match au (lo.map ρ) 0 h with
    | some l => some (.val (.str ((s.take h).drop l)) m)
    | none => none
   | none => none
  | _ => none := rfl
theorem tC {ρ : aV -> EV} {m : Mem} (n esz : Nat) (x : aV) (lo hi max : Option aV) : aA ρ (.xk n esz x lo hi max) m = match ρ x with
  | .ptr b off => gl m (eh esz b off n (some n) (lo.map ρ) (hi.map ρ) (max.map ρ))
  | _ => none := rfl
theorem tG {ρ : aV -> EV} {m : Mem} (off : Nat) (x : aV) : aA ρ (.aj off x) m = match ρ x with
  | .ptr b o => some (.val (.ptr b (o + off)) m)
  | .fF e els i k => some (.val (.fF e els i (k + off)) m)
  | _ => none := rfl
theorem zL {ρ : aV -> EV} {m : Mem} (agg : Option Nat) (off : Nat) (x : aV) : aA ρ (.AS agg off x) m = match ρ x with
  | .agg cs => gl m (partOf agg cs off)
  | _ => none := rfl
theorem mV {ρ : aV -> EV} {m : Mem} (n esz : Nat) (x i : aV) : aA ρ (.nt n esz x i) m = match ρ x with
  | .ptr b off => match idx n (ρ i) with
   | some i => some (.val (.ptr b (off + i * esz)) m)
   | none => none
  | _ => none := rfl
theorem qw {ρ : aV -> EV} {m : Mem} (x i : aV) : aA ρ (.gp x i) m = match ρ x with
  | .str s => match idx s.length (ρ i) with
   | some i => match s[i]? with
    | some c => some (.val (.int .u8 (c.toNat : Int)) m)
    | none => none
   | none => none
  | _ => none := rfl
theorem qx {ρ : aV -> EV} {m : Mem} (n esz : Nat) (agg : Option Nat) (x i : aV) : aA ρ (.uV n esz agg x i) m = match ρ x with
  | .agg cs => match idx n (ρ i) with
   | some i => gl m (partOf agg cs (i * esz))
   | none => none
  | _ => none := rfl
theorem qq {ρ : aV -> EV} {m : Mem} (kt : Nat) (zero : EV) (ok : Bool) (mp k : aV) : aA ρ (.lookup kt zero ok mp k) m = match ρ mp with
  | .bB => bif lK kt (ρ k) then some (.val (bif ok then .tuple [zero, .bool false] else zero) m) else none
  | .map b => match m.get b with
   | .map es => bif iK kt (ρ k) es then
     match find (ρ k) es with
     | some v => some (.val (bif ok then .tuple [v, .bool true] else v) m)
     | none => some (.val (bif ok then .tuple [zero, .bool false] else zero) m)
    else none
   | _ => none
  | _ => none := rfl
theorem qp {ρ : aV -> EV} {m : Mem} (kt : Nat) (mp k x : aV) : aA ρ (.pd kt mp k x) m = match ρ mp with
  | .map b => match m.get b with
   | .map es => bif iK kt (ρ k) es then some (.val .undef (m.set b (.map (update (ρ k) (ρ x) es)))) else none
   | _ => none
  | _ => none := rfl
theorem qA {ρ : aV -> EV} {m : Mem} (kt : Nat) (mp k : aV) : aA ρ (.delete kt mp k) m = match ρ mp with
  | .bB => bif lK kt (ρ k) then some (.val (.tuple []) m) else none
  | .map b => match m.get b with
   | .map es => bif iK kt (ρ k) es then some (.val (.tuple []) (m.set b (.map (erase (ρ k) es)))) else none
   | _ => none
  | _ => none := rfl
theorem qu {ρ : aV -> EV} {m : Mem} (mp : aV) : aA ρ (.qV mp) m = match ρ mp with
  | .bB => some (.val (.int .i64 0) m)
  | .map b => match m.get b with
   | .map es => some (.val (.int .i64 (es.length : Int)) m)
   | _ => none
  | _ => none := rfl
theorem ou {ρ : aV -> EV} {m : Mem} (t : Nat) (x : aV) : aA ρ (.pP t x) m = match ρ x with
  | .iface u v => bif t.beq u then some (.val v m) else none
  | _ => none := rfl
theorem oz {ρ : aV -> EV} {m : Mem} (x : aV) (i : Nat) : aA ρ (.extract x i) m = match ρ x with
  | .tuple vs => gl m vs[i]?
  | _ => none := rfl
theorem qt {ρ : aV -> EV} {m : Mem} (x : aV) : aA ρ (.eG x) m = match ρ x with
  | .str s => some (.val (.int .i64 (s.length : Int)) m)
  | _ => none := rfl
theorem qv {ρ : aV -> EV} {m : Mem} (n : Nat) : aA ρ (.uT n) m = some (.val (.int .i64 (n : Int)) m) := rfl
theorem zM {ρ : aV -> EV} {m : Mem} (x : aV) : aA ρ (.cap x) m = match ρ x with
  | .ae => some (.val (.int .i64 0) m)
  | .slice _ _ _ (some c) => some (.val (.int .i64 (c : Int)) m)
  | _ => none := rfl
theorem zK {ρ : aV -> EV} {m : Mem} (args : List aV) : aA ρ (.max args) m = gl m (ui (args.map ρ)) := rfl
theorem zJ {ρ : aV -> EV} {m : Mem} (args : List aV) : aA ρ (.min args) m = gl m (xv (args.map ρ)) := rfl
theorem qB {ρ : aV -> EV} {m : Mem} (elem esz bytes : Nat) (s x : aV) : aA ρ (.append elem esz bytes s x) m = w8 (fP m elem esz (ρ s) (ρ x)) := rfl
theorem wF {ρ : aV -> EV} {m : Mem} (esz : Nat) (d s : aV) : aA ρ (.copy esz d s) m = w8 (xR m esz (ρ d) (ρ s)) := rfl
open Classical in
noncomputable def bo (p : Prop) : EV := .bool (decide p)
open Classical in
noncomputable def gv (p : Prop) (v : EV) : EV := if p then v else .undef
open Classical in
noncomputable def iF {α : Type} (p : Prop) (x y : α) : α := if p then x else y
theorem wW {p : Prop} [h : Decidable p] : EV.bool (decide p) = bo p := by unfold bo; congr
theorem mY {p : Prop} [h : Decidable p] : EV.bool (!decide p) = bo (¬ p) := by
 unfold bo; by_cases hp : p <;> simp [hp]
theorem fY : bo True = .bool true := by simp [bo]
theorem fA : bo False = .bool false := by simp [bo]
theorem eB {p : Prop} (h : p) : bo p = .bool true := by simp [bo, h]
theorem eR {p : Prop} (h : ¬ p) : bo p = .bool false := by simp [bo, h]
theorem CH {v : EV} : gv True v = v := by simp [gv]
theorem zn {v : EV} : gv False v = .undef := by simp [gv]
theorem AM {α : Type} {p : Prop} (h : p) {x y : α} : iF p x y = x := by simp [iF, h]
theorem AN {α : Type} {p : Prop} (h : ¬ p) {x y : α} : iF p x y = y := by simp [iF, h]
@[congr] theorem Xi {α : Type} {p p' : Prop} {x x' y y' : α} (h : p = p') (h1 : p' -> x = x') (h2 : ¬ p' -> y = y') : iF p x y = iF p' x' y' := by
 subst h; by_cases hp : p
 ·rw [AM hp, AM hp]; exact h1 hp
 ·rw [AN hp, AN hp]; exact h2 hp
def cE (v : EV) (x y : Option Out) : Option Out := match v with
 | .bool true => x
 | .bool false => y
 | _ => none
@[congr] theorem Yl {v v' : EV} {x y : Option Out} (h : v = v') : cE v x y = cE v' x y := by rw [h]
theorem NE {p : Prop} {x y : Option Out} : cE (bo p) x y = iF p x y := by by_cases h : p <;> simp [bo, iF, cE, h]
theorem TT {x y : Option Out} : cE (.bool true) x y = x := rfl
theorem TU {x y : Option Out} : cE (.bool false) x y = y := rfl
theorem tw {T : Nat -> Option iz} {c : aV} {a b : aH} {fr : Fr} {m : Mem} : exec T (.cond c a b) fr m = cE (fr.eval c) (exec T a fr m) (exec T b fr m) := by
 cases h : fr.eval c
 case bool t => rw [GA h]; cases t <;> rfl
 all_goals
  refine db fun r => ?_
  rw [cg];simp only [ao, h, reduceCtorEq, exists_const, cE]
open Classical in
noncomputable def lZ (p : Prop) (m : Mem) (o : Option R1) (k : EV -> Mem -> Option Out) : Option Out := if p then gA o k else k .undef m
open Classical in
noncomputable def lY (p : Prop) (fr : Fr) (m : Mem) (o : Option Fin) (k : EV -> Mem -> Option Out) : Option Out := if p then pO o fr k else k .undef m
@[congr] theorem T9 {p p' : Prop} {m : Mem} {o o' : Option R1} {k : EV -> Mem -> Option Out} (h : p = p') (ho : p' -> o = o') : lZ p m o k = lZ p' m o' k := by
 subst h; by_cases hp : p <;> simp only [lZ, hp, if_true, if_false]; rw [ho hp]
@[congr] theorem T8 {p p' : Prop} {fr : Fr} {m : Mem} {o o' : Option Fin} {k : EV -> Mem -> Option Out} (h : p = p') (ho : p' -> o = o') : lY p fr m o k = lY p' fr m o' k := by
 subst h; by_cases hp : p <;> simp only [lY, hp, if_true, if_false]; rw [ho hp]
theorem vz {p : Prop} {m m' : Mem} {v : EV} {k : EV -> Mem -> Option Out} (he : p -> m' = m) : lZ p m (some (.val v m')) k = k (gv p v) m := by
 by_cases h : p
 ·rw [he h]; simp [lZ, gv, gA, h]
 ·simp [lZ, gv, h]
theorem vw {p : Prop} {fr : Fr} {m m' : Mem} {v : EV} {k : EV -> Mem -> Option Out} (he : p -> m' = m) : lY p fr m (some (.ret v m')) k = k (gv p v) m := by
 by_cases h : p
 ·rw [he h]; simp [lY, gv, pO, h]
 ·simp [lY, gv, h]
def gE (v : EV) (w : Bool) (x y : Option Out) : Option Out := match v with
 | .bool b => bif b == w then x else y
 | .undef => y
 | _ => none
@[congr] theorem X0 {v v' : EV} {w : Bool} {x y : Option Out} (h : v = v') : gE v w x y = gE v' w x y := by rw [h]
def gV (v : EV) (w : Bool) (m : Mem) (o : Option R1) (k : EV -> Mem -> Option Out) : Option Out := gE v w (gA o k) (k .undef m)
def gC (v : EV) (w : Bool) (fr : Fr) (m : Mem) (o : Option Fin) (k : EV -> Mem -> Option Out) : Option Out := gE v w (pO o fr k) (k .undef m)
@[congr] theorem XZ {v v' : EV} {w : Bool} {m : Mem} {o : Option R1} {k : EV -> Mem -> Option Out} (h : v = v') : gV v w m o k = gV v' w m o k := by rw [h]
@[congr] theorem X1 {v v' : EV} {w : Bool} {fr : Fr} {m : Mem} {o : Option Fin} {k : EV -> Mem -> Option Out} (h : v = v') : gC v w fr m o k = gC v' w fr m o k := by rw [h]
section
variable {p q : Prop} {b : Bool} {w : Bool} {fr : Fr} {m : Mem} {o : Option R1} {c : Option Fin} {k : EV -> Mem -> Option Out}
theorem zq : gV .undef w m o k = k .undef m := rfl
theorem zu : gC .undef w fr m c k = k .undef m := rfl
theorem CO : gV (bo p) true m o k = lZ p m o k := by by_cases h : p <;> simp [gV, gE, bo, lZ, h]
theorem CP : gV (bo p) false m o k = lZ (¬ p) m o k := by by_cases h : p <;> simp [gV, gE, bo, lZ, h]
theorem MW : gV (.bool true) true m o k = gA o k := rfl
theorem MX : gV (.bool true) false m o k = k .undef m := rfl
theorem MY : gV (.bool false) true m o k = k .undef m := rfl
theorem MZ : gV (.bool false) false m o k = gA o k := rfl
theorem CI : gV (gv p (bo q)) true m o k = lZ (p /\ q) m o k := by by_cases h : p <;> by_cases h' : q <;> simp [gV, gE, bo, gv, lZ, h, h']
theorem CJ : gV (gv p (bo q)) false m o k = lZ (p /\ ¬ q) m o k := by by_cases h : p <;> by_cases h' : q <;> simp [gV, gE, bo, gv, lZ, h, h']
theorem CK : gV (gv p (.bool true)) true m o k = lZ p m o k := by by_cases h : p <;> simp [gV, gE, gv, lZ, h]
theorem CL : gV (gv p (.bool true)) false m o k = k .undef m := by by_cases h : p <;> simp [gV, gE, gv, h]
theorem CM : gV (gv p (.bool false)) true m o k = k .undef m := by by_cases h : p <;> simp [gV, gE, gv, h]
theorem CN : gV (gv p (.bool false)) false m o k = lZ p m o k := by by_cases h : p <;> simp [gV, gE, gv, lZ, h]
theorem C4 : gC (bo p) true fr m c k = lY p fr m c k := by by_cases h : p <;> simp [gC, gE, bo, lY, h]
theorem C5 : gC (bo p) false fr m c k = lY (¬ p) fr m c k := by by_cases h : p <;> simp [gC, gE, bo, lY, h]
theorem M8 : gC (.bool true) true fr m c k = pO c fr k := rfl
theorem Na : gC (.bool true) false fr m c k = k .undef m := rfl
theorem Nb : gC (.bool false) true fr m c k = k .undef m := rfl
theorem Nc : gC (.bool false) false fr m c k = pO c fr k := rfl
theorem CY : gC (gv p (bo q)) true fr m c k = lY (p /\ q) fr m c k := by by_cases h : p <;> by_cases h' : q <;> simp [gC, gE, bo, gv, lY, h, h']
theorem CZ : gC (gv p (bo q)) false fr m c k = lY (p /\ ¬ q) fr m c k := by by_cases h : p <;> by_cases h' : q <;> simp [gC, gE, bo, gv, lY, h, h']
theorem C0 : gC (gv p (.bool true)) true fr m c k = lY p fr m c k := by by_cases h : p <;> simp [gC, gE, gv, lY, h]
theorem C1 : gC (gv p (.bool true)) false fr m c k = k .undef m := by by_cases h : p <;> simp [gC, gE, gv, h]
theorem C2 : gC (gv p (.bool false)) true fr m c k = k .undef m := by by_cases h : p <;> simp [gC, gE, gv, h]
theorem C3 : gC (gv p (.bool false)) false fr m c k = lY p fr m c k := by by_cases h : p <;> simp [gC, gE, gv, lY, h]
end
theorem uL {T : Nat -> Option iz} {d : Option Nat} {op : Aq} {t : Nat} {w : Bool} {l : List aY} {fr : Fr} {m : Mem} :
  oj T (⟨d, op, some (t, w)⟩ :: l) fr m = gE (fr.get t) w (oj T (⟨d, op, none⟩ :: l) fr m) (oj T l (fr.put d .undef) m) := by
 cases h : fr.get t
 case bool b => rw [KY h]; rfl
 case undef =>
  refine db fun r => ?_
  rw [gj];simp only [gQ, bf, h, gE];exact gj.symm
 all_goals
  refine db fun r => ?_
  rw [gj];simp only [gQ, bf, h, reduceCtorEq, exists_const, gE]
theorem wb {T : Nat -> Option iz} {d : Option Nat} {op : ls} {t : Nat} {w : Bool} {l : List aY} {fr : Fr} {m : Mem} :
  oj T (⟨d, .val op, some (t, w)⟩ :: l) fr m = gV (fr.get t) w m (aA fr.eval op m) (fun v m => oj T l (fr.put d v) m) := by rw [uL, rA]; rfl
noncomputable def AB (T : Nat -> Option iz) (f : EV) (args : List EV) (m : Mem) : Option Fin := match f with
 | .func g a c => run T g (a ++ args ++ c) m
 | _ => none
theorem oK {T : Nat -> Option iz} {g : Nat} {a c args : List EV} {m : Mem} : AB T (.func g a c) args m = run T g (a ++ args ++ c) m := rfl
theorem my {T : Nat -> Option iz} {d : Option Nat} {x : aV} {args : List aV} {l : List aY} {fr : Fr} {m : Mem} :
  oj T (⟨d, .call x args, none⟩ :: l) fr m = pO (AB T (fr.eval x) (args.map fr.eval) m) fr fun v m => oj T l (fr.put d v) m := by
 refine db fun r => ?_
 rw [gj];simp only [gQ, bf]
 cases hx : fr.eval x
 case func g a c =>
  simp only [fM, AB]
  constructor
  ·rintro ⟨k, h⟩
   cases hc : aS T k g (a ++ args.map fr.eval ++ c) m with
   | none => rw [hc] at h; cases h
   | some q =>
    rw [mQ.2 ⟨k, hc⟩];simp only [hc] at h
    cases q with
    | ret v m1 => exact gj.2 ⟨k, h⟩
    | gD v m1 => exact h
  ·intro h
   cases hc : run T g (a ++ args.map fr.eval ++ c) m with
   | none => rw [hc] at h; cases h
   | some q =>
    obtain ⟨k1, h1⟩ := mQ.1 hc
    rw [hc] at h
    cases q with
    | ret v m1 =>
     simp only [pO] at h;obtain ⟨k2, h2⟩ := gj.1 h
     refine ⟨max k1 k2, ?_⟩
     have e1 := Ee _ _ _ (Nat.le_max_left k1 k2) h1
     have e2 := Gf _ _ _ (Nat.le_max_right k1 k2) h2
     simp only at e1 e2
     rw [e1]; exact e2
    | gD v m1 => exact ⟨k1, by rw [h1]; exact h⟩
 all_goals simp [fM, AB, pO]
theorem qa {T : Nat -> Option iz} {d : Option Nat} {x : aV} {args : List aV} {t : Nat} {w : Bool} {l : List aY} {fr : Fr} {m : Mem} :
  oj T (⟨d, .call x args, some (t, w)⟩ :: l) fr m = gC (fr.get t) w fr m (AB T (fr.eval x) (args.map fr.eval) m) (fun v m => oj T l (fr.put d v) m) := by rw [uL, my]; rfl
def la (c a b : EV) (m : Mem) : Option R1 := match c with
 | .bool t => some (.val (bif t then a else b) m)
 | _ => none
theorem tD {ρ : aV -> EV} {c x y : aV} {m : Mem} : aA ρ (.pick c x y) m = la (ρ c) (ρ x) (ρ y) m := by
 simp only [aA]; unfold la; cases ρ c <;> rfl
section
variable {p q r : Prop} {a b : EV} {m : Mem} {c d : Bool}
theorem yK : la (bo p) (gv p (bo q)) (.bool false) m = some (.val (bo (p /\ q)) m) := by by_cases h : p <;> by_cases h' : q <;> simp [la, gv, bo, h, h']
theorem sS : la (bo p) (gv p (.bool true)) (.bool false) m = some (.val (bo p) m) := by by_cases h : p <;> simp [la, gv, bo, h]
theorem sT : la (bo p) (gv p (.bool false)) (.bool false) m = some (.val (.bool false) m) := by by_cases h : p <;> simp [la, gv, bo, h]
theorem Ck (hr : r = ¬ p) : la (bo p) (.bool true) (gv r (bo q)) m = some (.val (bo (p \/ q)) m) := by subst hr; by_cases h : p <;> by_cases h' : q <;> simp [la, gv, bo, h, h']
theorem vX (hr : r = ¬ p) : la (bo p) (.bool true) (gv r (.bool true)) m = some (.val (.bool true) m) := by subst hr; by_cases h : p <;> simp [la, gv, bo, h]
theorem vY (hr : r = ¬ p) : la (bo p) (.bool true) (gv r (.bool false)) m = some (.val (bo p) m) := by subst hr; by_cases h : p <;> simp [la, gv, bo, h]
theorem vZ : la (bo p) (bo q) (.bool false) m = some (.val (bo (p /\ q)) m) := by by_cases h : p <;> by_cases h' : q <;> simp [la, bo, h, h']
theorem yJ : la (bo p) (.bool true) (bo q) m = some (.val (bo (p \/ q)) m) := by by_cases h : p <;> by_cases h' : q <;> simp [la, bo, h, h']
theorem Hc : la (.bool true) a b m = some (.val a m) := rfl
theorem Hd : la (.bool false) a b m = some (.val b m) := rfl
end
theorem vq {p : Prop} : EI .not (bo p) = some (bo (¬ p)) := by by_cases h : p <;> simp [EI, bo, h]
theorem HN {p q : Prop} : eH (.aJ 0) (bo p) (bo q) = some (@decide (p = q) (Classical.propDecidable _)) := by by_cases h : p <;> by_cases h' : q <;> simp [eH, dK, bo, h, h']
theorem Dg {p : Prop} : eH (.aJ 0) (bo p) (.bool true) = some (@decide p (Classical.propDecidable _)) := by by_cases h : p <;> simp [eH, dK, bo, h]
theorem Dh {p : Prop} : eH (.aJ 0) (bo p) (.bool false) = some (@decide (¬ p) (Classical.propDecidable _)) := by by_cases h : p <;> simp [eH, dK, bo, h]
theorem Dd {p : Prop} : eH (.aJ 0) (.bool true) (bo p) = some (@decide p (Classical.propDecidable _)) := by by_cases h : p <;> simp [eH, dK, bo, h]
theorem Df {p : Prop} : eH (.aJ 0) (.bool false) (bo p) = some (@decide (¬ p) (Classical.propDecidable _)) := by by_cases h : p <;> simp [eH, dK, bo, h]
theorem Nl : eH (.aJ 0) (.bool true) (.bool true) = some true := rfl
theorem Ny : eH (.aJ 0) (.bool false) (.bool false) = some true := rfl
theorem Nm : eH (.aJ 0) (.bool true) (.bool false) = some false := rfl
theorem Nw : eH (.aJ 0) (.bool false) (.bool true) = some false := rfl
theorem yc : EI .not (.bool true) = some (.bool false) := rfl
theorem yd : EI .not (.bool false) = some (.bool true) := rfl
theorem HM {a b : List UInt8} : eH (.aJ 2) (.str a) (.str b) = some (decide (a = b)) := by simp only [eH, dK, dM, cond_true, fB]
theorem ym {p : Prop} {a b : Option Out} {k : Fr -> Mem -> Option Out} : l6 (iF p a b) k = iF p (l6 a k) (l6 b k) := by unfold iF; split <;> rfl
theorem y9 {id : Nat} {p : Prop} {a b : Option Out} : pf id (iF p a b) = iF p (pf id a) (pf id b) := by unfold iF; split <;> rfl
theorem yl {p : Prop} {a b : Option R1} {k : EV -> Mem -> Option Out} : gA (iF p a b) k = iF p (gA a k) (gA b k) := by unfold iF; split <;> rfl
theorem yn {p : Prop} {a b : Option Fin} {fr : Fr} {k : EV -> Mem -> Option Out} : pO (iF p a b) fr k = iF p (pO a fr k) (pO b fr k) := by unfold iF; split <;> rfl
theorem Cj {rs : List lV} {p : Prop} {a b : Option Out} : pF rs (iF p a b) = iF p (pF rs a) (pF rs b) := by unfold iF; split <;> rfl
theorem Mn {T : Nat -> Option iz} {f : Nat} {F : ax} (hf : T f = some (.go F)) {args : List EV} {m : Mem} (hn : args.length <= F.ntmps) : run T f args m = pF F.results (exec T F.body (aa args 0 ph) m) := by
 rw [Qb hf hn, Ha]; unfold ph; rw [Ag]
theorem bJ {n : Nat} {k : IntKind} {i : Nat} (h : i < n) : idx n (.int k (i : Int)) = some i := by
 have : (i + 1).ble n = true := A8 h
 show (bif (i + 1).ble n then some i else none) = _
 rw [this]; rfl
theorem Q4 {n : Nat} {k : IntKind} (h : 0 < n) : idx n (.int k 0) = some 0 := bJ (i := 0) h
theorem py {d n : Nat} : au none d n = some d := rfl
theorem eJ {d n i : Nat} {k : IntKind} (h : i <= n) : au (some (.int k (i : Int))) d n = some i := by
 show (bif i.ble n then some i else none) = _
 rw [A8 h]; rfl
theorem Q5 (n : Int) : IntKind.i64.wrap n = if n % 18446744073709551616 >= 9223372036854775808 then n % 18446744073709551616 - 18446744073709551616 else n % 18446744073709551616 := by
 have e : IntKind.i64.wrap n = if (true && decide (n % 18446744073709551616 >= 9223372036854775808)) = true then n % 18446744073709551616 - 18446744073709551616 else n % 18446744073709551616 := rfl
 rw [e]; simp only [Bool.true_and, decide_eq_true_eq]
theorem SF (n : Int) : IntKind.u8.wrap n = n % 256 := by
 have e : IntKind.u8.wrap n = if (false && decide (n % 256 >= 128)) = true then n % 256 - 256 else n % 256 := rfl
 rw [e]; simp
theorem wrap_i64 {n : Int} (h1 : -9223372036854775808 <= n) (h2 : n < 9223372036854775808) : IntKind.i64.wrap n = n := by
 rw [Q5]; split <;> omega
theorem told {T : Nat -> Option iz} {c : aH} {fr : Fr} {m : Mem} {X : Option Out} (hX : exec T c fr m = X) {α : Type} {o : α -> Out} {Q : α -> Prop} (h : ∃ x, exec T c fr m = some (o x) /\ Q x) : ∃ x, X = some (o x) /\ Q x := by
 rw [hX] at h; exact h
end
section
inductive Bt where
 | leaf
 | node (k : Nat) (e : iz) (l r : Bt)
def Bt.find : Bt -> Nat -> Option iz
 | .leaf, _ => none
 | .node k e l r, f => bif f.beq k then some e else bif f.blt k then l.find f else r.find f
def Bt.All (Q : Nat -> iz -> Prop) : Bt -> Prop
 | .leaf => True
 | .node k e l r => Q k e /\ l.All Q /\ r.All Q
theorem Bt.C8 {Q : Nat -> iz -> Prop} : ∀ {t : Bt}, t.All Q -> ∀ f e, t.find f = some e -> Q f e
 | .leaf, _, f, e, h => by simp [Bt.find] at h
 | .node k x l r, ⟨h0, hl, hr⟩, f, e, h => by
  simp only [Bt.find] at h
  cases hk : f.beq k with
  | true =>
   rw [aR hk];simp only [hk, cond_true, bc] at h;subst h; exact h0
  | false =>
   simp only [hk, cond_false] at h
   cases hb : f.blt k <;> simp only [hb, cond_true, cond_false] at h
   ·exact Bt.C8 hr f e h
   ·exact Bt.C8 hl f e h
def Y8 : List EV -> Option EV
 | [.int .u64 (.ofNat x), .int .u64 (.ofNat y), .int .u64 (.ofNat c)] => bif c.ble 1 then some (.tuple [.int .u64 (.ofNat ((x + y + c) % 18446744073709551616)), .int .u64 (.ofNat ((x + y + c) / 18446744073709551616))]) else none
 | _ => none
def Y7 : List EV -> Option EV
 | [.str s, .int .u8 c] => some (.int .i64 (Go.Lib.countByte s c.toNat.toUInt8))
 | _ => none
def gh : List EV -> Option EV
 | [.str s, .int .u8 c] => some (.int .i64 (Go.Lib.indexByte s c.toNat.toUInt8))
 | _ => none
theorem FJ {P : Program} {G : List Nat} {f : Nat} {fn : Func} (hf : P.funcs[f]? = some fn) (XE : (fn.name == "runtime.NumGoroutine") = false) (hb : fn.body.isNone = true) (hn : Extern.findNext fn = none) (he : Extern.find fn = some Extern.BytealgIndexByte.indexByte) :
  Ki P G f (.ext gh) := by
 intro base ρ m w args aw v _ hv h
 unfold gh at h
 split at h
 ·rename_i s c
  cases h
  obtain ⟨l⟩ := aw
  cases hv with
  | cons h1 hs =>
  cases hs with
  | cons h2 hs =>
  cases hs
  cases h2
  generalize hx : EV.str s = x at h1
  cases h1 <;> cases hx
  rename_i t
  refine ⟨_, ?_, .int _ _⟩
  rw [run_callFunc_extern hf XE hb hn he];have h := Go.Lib.run_indexByteString (P := P) t c w
  rw [h]; rfl
 ·cases h
def isTrue : Option Fin -> Bool
 | some (.ret (.bool true) _) => true
 | _ => false
theorem OK {r : Option Fin} (h : isTrue r = true) : ∃ m, r = some (.ret (.bool true) m) := by
 unfold isTrue at h
 split at h
 ·exact ⟨_, rfl⟩
 ·cases h
def Mi : List EV -> Option EV
 | [] => some (.bool true)
 | _ => none
theorem P9 {T : Nat -> Option iz} {f : Nat} (hf : T f = some (.pure Mi)) {m : Mem} : run T f [] m = some (.ret (.bool true) m) := by rw [run_pure hf]; rfl
end
section
theorem mix : Tryd.prog.follows .mixedOrders = true := by kernel_rfl
theorem ltG : ∀ g, G.contains g = true -> g < 3 := fun g h => by simp [G] at h; try omega
abbrev gm : Nat := 92
def tree : Bt :=
 (.node 58 (.go dk) (.node 32 (.go bU) (.node 18 (.go cr) (.node 12 (.go fV) (.node 7 (.go gW) (.node 6 (.go eT) (.node 3 (.go dv) .leaf .leaf) .leaf) (.node 10 (.go gd) (.node 8 (.go lm) .leaf .leaf) .leaf)) (.node 15 (.go bl) (.node 14 (.go bC) (.node 13 (.go jV) .leaf .leaf) .leaf) (.node 17 (.go dl) (.node 16 (.go cz) .leaf .leaf) .leaf))) (.node 27 (.go gx) (.node 21 (.go dY) (.node 20 (.go bm) (.node 19 (.go ey) .leaf .leaf) .leaf) (.node 23 (.go mL) (.node 22 (.go iY) .leaf .leaf) .leaf)) (.node 30 (.go di) (.node 29 (.go bq) (.node 28 (.go ev) .leaf .leaf) .leaf) (.node 31 (.go cH) .leaf .leaf)))) (.node 46 (.go jS) (.node 38 (.go gX) (.node 35 (.go cq) (.node 34 (.go cZ) (.node 33 (.go dA) .leaf .leaf) .leaf) (.node 37 (.go bi) (.node 36 (.go lh) .leaf .leaf) .leaf)) (.node 41 (.go mM) (.node 40 (.go mK) (.node 39 (.go lp) .leaf .leaf) .leaf) (.node 45 (.go gY) (.node 43 (.go iZ) .leaf .leaf) .leaf))) (.node 53 (.go bT) (.node 50 (.go fZ) (.node 49 (.go ll) (.node 48 (.go g9) .leaf .leaf) .leaf) (.node 52 (.go c6) (.node 51 (.go cG) .leaf .leaf) .leaf)) (.node 56 (.go dj) (.node 55 (.go dy) (.node 54 (.go c7) .leaf .leaf) .leaf) (.node 57 (.go dX) .leaf .leaf))))) (.node 81 (.go dz) (.node 70 (.go bp) (.node 64 (.go li) (.node 61 (.go iX) (.node 60 (.go dF) (.node 59 (.go ca) .leaf .leaf) .leaf) (.node 63 (.go gU) (.node 62 (.go jT) .leaf .leaf) .leaf)) (.node 67 (.go lk) (.node 66 (.go lj) (.node 65 (.go jQ) .leaf .leaf) .leaf) (.node 69 (.go cL) (.node 68 (.go dx) .leaf .leaf) .leaf))) (.node 76 (.go aE) (.node 73 (.go gb) (.node 72 (.go aP) (.node 71 (.go pA) .leaf .leaf) .leaf) (.node 75 (.go jR) (.node 74 (.go cX) .leaf .leaf) .leaf)) (.node 79 (.go b9) (.node 78 (.go cy) (.node 77 (.go dT) .leaf .leaf) .leaf) (.node 80 (.go dU) .leaf .leaf)))) (.node 92 (.ext gh) (.node 87 (.go fc) (.node 84 (.go fg) (.node 83 (.go cY) (.node 82 (.go cW) .leaf .leaf) .leaf) (.node 86 (.go ff) (.node 85 (.go dV) .leaf .leaf) .leaf)) (.node 90 (.go ed) (.node 89 (.go e9) (.node 88 (.go dZ) .leaf .leaf) .leaf) (.node 91 (.go dE) .leaf .leaf))) (.node 99 (.go bH) (.node 96 (.go cK) (.node 95 (.go bd) (.node 94 (.go cR) .leaf .leaf) .leaf) (.node 98 (.go ct) (.node 97 (.go dC) .leaf .leaf) .leaf)) (.node 102 (.go dD) (.node 101 (.go jU) (.node 100 (.go dB) .leaf .leaf) .leaf) (.node 103 (.go bQ) .leaf .leaf))))))
def T : Nat -> Option iz := tree.find
theorem okT : ∀ f e, T f = some e -> Ki Tryd.prog G f e := Bt.C8 (t := tree)
 ⟨⟨_, Tryd.func58, ZX⟩, ⟨⟨_, Tryd.func32, aak⟩, ⟨⟨_, Tryd.func18, aav⟩, ⟨⟨_, Tryd.func12, aaB⟩, ⟨⟨_, Tryd.func7, ok7⟩, ⟨⟨_, Tryd.func6, ok6⟩, ⟨⟨_, Tryd.func3, ok3⟩, trivial, trivial⟩, trivial⟩, ⟨⟨_, Tryd.func10, aaC⟩, ⟨⟨_, Tryd.func8, ok8⟩, trivial, trivial⟩, trivial⟩⟩, ⟨⟨_, Tryd.func15, aay⟩, ⟨⟨_, Tryd.func14, aaz⟩, ⟨⟨_, Tryd.func13, aaA⟩, trivial, trivial⟩, trivial⟩, ⟨⟨_, Tryd.func17, aaw⟩, ⟨⟨_, Tryd.func16, aax⟩, trivial, trivial⟩, trivial⟩⟩⟩, ⟨⟨_, Tryd.func27, aap⟩, ⟨⟨_, Tryd.func21, aas⟩, ⟨⟨_, Tryd.func20, aat⟩, ⟨⟨_, Tryd.func19, aau⟩, trivial, trivial⟩, trivial⟩, ⟨⟨_, Tryd.func23, aaq⟩, ⟨⟨_, Tryd.func22, aar⟩, trivial, trivial⟩, trivial⟩⟩, ⟨⟨_, Tryd.func30, aam⟩, ⟨⟨_, Tryd.func29, aan⟩, ⟨⟨_, Tryd.func28, aao⟩, trivial, trivial⟩, trivial⟩, ⟨⟨_, Tryd.func31, aal⟩, trivial, trivial⟩⟩⟩⟩, ⟨⟨_, Tryd.func46, Z8⟩, ⟨⟨_, Tryd.func38, aae⟩, ⟨⟨_, Tryd.func35, aah⟩, ⟨⟨_, Tryd.func34, aai⟩, ⟨⟨_, Tryd.func33, aaj⟩, trivial, trivial⟩, trivial⟩, ⟨⟨_, Tryd.func37, aaf⟩, ⟨⟨_, Tryd.func36, aag⟩, trivial, trivial⟩, trivial⟩⟩, ⟨⟨_, Tryd.func41, aab⟩, ⟨⟨_, Tryd.func40, aac⟩, ⟨⟨_, Tryd.func39, aad⟩, trivial, trivial⟩, trivial⟩, ⟨⟨_, Tryd.func45, Z9⟩, ⟨⟨_, Tryd.func43, aaa⟩, trivial, trivial⟩, trivial⟩⟩⟩, ⟨⟨_, Tryd.func53, Z2⟩, ⟨⟨_, Tryd.func50, Z5⟩, ⟨⟨_, Tryd.func49, Z6⟩, ⟨⟨_, Tryd.func48, Z7⟩, trivial, trivial⟩, trivial⟩, ⟨⟨_, Tryd.func52, Z3⟩, ⟨⟨_, Tryd.func51, Z4⟩, trivial, trivial⟩, trivial⟩⟩, ⟨⟨_, Tryd.func56, ZZ⟩, ⟨⟨_, Tryd.func55, Z0⟩, ⟨⟨_, Tryd.func54, Z1⟩, trivial, trivial⟩, trivial⟩, ⟨⟨_, Tryd.func57, ZY⟩, trivial, trivial⟩⟩⟩⟩⟩, ⟨⟨_, Tryd.func81, ZA⟩, ⟨⟨_, Tryd.func70, ZL⟩, ⟨⟨_, Tryd.func64, ZR⟩, ⟨⟨_, Tryd.func61, ZU⟩, ⟨⟨_, Tryd.func60, ZV⟩, ⟨⟨_, Tryd.func59, ZW⟩, trivial, trivial⟩, trivial⟩, ⟨⟨_, Tryd.func63, ZS⟩, ⟨⟨_, Tryd.func62, ZT⟩, trivial, trivial⟩, trivial⟩⟩, ⟨⟨_, Tryd.func67, ZO⟩, ⟨⟨_, Tryd.func66, ZP⟩, ⟨⟨_, Tryd.func65, ZQ⟩, trivial, trivial⟩, trivial⟩, ⟨⟨_, Tryd.func69, ZM⟩, ⟨⟨_, Tryd.func68, ZN⟩, trivial, trivial⟩, trivial⟩⟩⟩, ⟨⟨_, Tryd.func76, ZF⟩, ⟨⟨_, Tryd.func73, ZI⟩, ⟨⟨_, Tryd.func72, ZJ⟩, ⟨⟨_, Tryd.func71, ZK⟩, trivial, trivial⟩, trivial⟩, ⟨⟨_, Tryd.func75, ZG⟩, ⟨⟨_, Tryd.func74, ZH⟩, trivial, trivial⟩, trivial⟩⟩, ⟨⟨_, Tryd.func79, ZC⟩, ⟨⟨_, Tryd.func78, ZD⟩, ⟨⟨_, Tryd.func77, ZE⟩, trivial, trivial⟩, trivial⟩, ⟨⟨_, Tryd.func80, ZB⟩, trivial, trivial⟩⟩⟩⟩, ⟨FJ Tryd.func92 (by kernel_rfl) (by kernel_rfl) (by kernel_rfl) (by kernel_rfl), ⟨⟨_, Tryd.func87, Zu⟩, ⟨⟨_, Tryd.func84, Zx⟩, ⟨⟨_, Tryd.func83, Zy⟩, ⟨⟨_, Tryd.func82, Zz⟩, trivial, trivial⟩, trivial⟩, ⟨⟨_, Tryd.func86, Zv⟩, ⟨⟨_, Tryd.func85, Zw⟩, trivial, trivial⟩, trivial⟩⟩, ⟨⟨_, Tryd.func90, Zr⟩, ⟨⟨_, Tryd.func89, Zs⟩, ⟨⟨_, Tryd.func88, Zt⟩, trivial, trivial⟩, trivial⟩, ⟨⟨_, Tryd.func91, Zq⟩, trivial, trivial⟩⟩⟩, ⟨⟨_, Tryd.func99, Zk⟩, ⟨⟨_, Tryd.func96, Zn⟩, ⟨⟨_, Tryd.func95, Zo⟩, ⟨⟨_, Tryd.func94, Zp⟩, trivial, trivial⟩, trivial⟩, ⟨⟨_, Tryd.func98, Zl⟩, ⟨⟨_, Tryd.func97, Zm⟩, trivial, trivial⟩, trivial⟩⟩, ⟨⟨_, Tryd.func102, W5⟩, ⟨⟨_, Tryd.func101, W6⟩, ⟨⟨_, Tryd.func100, W7⟩, trivial, trivial⟩, trivial⟩, ⟨⟨_, Tryd.func103, W4⟩, trivial, trivial⟩⟩⟩⟩⟩⟩
theorem at3 : T 3 = some (.go dv) := rfl
theorem at6 : T 6 = some (.go eT) := rfl
theorem at7 : T 7 = some (.go gW) := rfl
theorem at8 : T 8 = some (.go lm) := rfl
theorem adg : T 10 = some (.go gd) := rfl
theorem adf : T 12 = some (.go fV) := rfl
theorem ade : T 13 = some (.go jV) := rfl
theorem adb : T 14 = some (.go bC) := rfl
theorem ada : T 15 = some (.go bl) := rfl
theorem ac9 : T 16 = some (.go cz) := rfl
theorem ac8 : T 17 = some (.go dl) := rfl
theorem ac7 : T 18 = some (.go cr) := rfl
theorem ac6 : T 19 = some (.go ey) := rfl
theorem ac5 : T 20 = some (.go bm) := rfl
theorem ac4 : T 21 = some (.go dY) := rfl
theorem ac3 : T 22 = some (.go iY) := rfl
theorem ac2 : T 23 = some (.go mL) := rfl
theorem ac1 : T 27 = some (.go gx) := rfl
theorem ac0 : T 28 = some (.go ev) := rfl
theorem acZ : T 29 = some (.go bq) := rfl
theorem acY : T 30 = some (.go di) := rfl
theorem acX : T 31 = some (.go cH) := rfl
theorem acW : T 32 = some (.go bU) := rfl
theorem acV : T 33 = some (.go dA) := rfl
theorem acU : T 34 = some (.go cZ) := rfl
theorem acT : T 35 = some (.go cq) := rfl
theorem acS : T 36 = some (.go lh) := rfl
theorem acR : T 37 = some (.go bi) := rfl
theorem acQ : T 38 = some (.go gX) := rfl
theorem acP : T 39 = some (.go lp) := rfl
theorem acO : T 40 = some (.go mK) := rfl
theorem acN : T 41 = some (.go mM) := rfl
theorem acM : T 43 = some (.go iZ) := rfl
theorem acL : T 45 = some (.go gY) := rfl
theorem acK : T 46 = some (.go jS) := rfl
theorem acJ : T 48 = some (.go g9) := rfl
theorem acI : T 49 = some (.go ll) := rfl
theorem acH : T 50 = some (.go fZ) := rfl
theorem acG : T 51 = some (.go cG) := rfl
theorem acF : T 52 = some (.go c6) := rfl
theorem acE : T 53 = some (.go bT) := rfl
theorem acD : T 54 = some (.go c7) := rfl
theorem acC : T 55 = some (.go dy) := rfl
theorem acB : T 56 = some (.go dj) := rfl
theorem acA : T 57 = some (.go dX) := rfl
theorem acz : T 58 = some (.go dk) := rfl
theorem acy : T 59 = some (.go ca) := rfl
theorem acx : T 60 = some (.go dF) := rfl
theorem acw : T 61 = some (.go iX) := rfl
theorem acv : T 62 = some (.go jT) := rfl
theorem acu : T 63 = some (.go gU) := rfl
theorem acs : T 64 = some (.go li) := rfl
theorem acr : T 65 = some (.go jQ) := rfl
theorem acq : T 66 = some (.go lj) := rfl
theorem acp : T 67 = some (.go lk) := rfl
theorem aco : T 68 = some (.go dx) := rfl
theorem acn : T 69 = some (.go cL) := rfl
theorem acm : T 70 = some (.go bp) := rfl
theorem ack : T 71 = some (.go pA) := rfl
theorem acj : T 72 = some (.go aP) := rfl
theorem aci : T 73 = some (.go gb) := rfl
theorem ach : T 74 = some (.go cX) := rfl
theorem acg : T 75 = some (.go jR) := rfl
theorem acf : T 76 = some (.go aE) := rfl
theorem ace : T 77 = some (.go dT) := rfl
theorem acd : T 79 = some (.go b9) := rfl
theorem acb : T 80 = some (.go dU) := rfl
theorem aca : T 81 = some (.go dz) := rfl
theorem ab9 : T 82 = some (.go cW) := rfl
theorem ab8 : T 83 = some (.go cY) := rfl
theorem ab7 : T 84 = some (.go fg) := rfl
theorem ab6 : T 85 = some (.go dV) := rfl
theorem ab5 : T 86 = some (.go ff) := rfl
theorem ab4 : T 87 = some (.go fc) := rfl
theorem ab3 : T 88 = some (.go dZ) := rfl
theorem ab2 : T 89 = some (.go e9) := rfl
theorem ab1 : T 90 = some (.go ed) := rfl
theorem ab0 : T 91 = some (.go dE) := rfl
theorem abZ : T 92 = some (.ext gh) := rfl
theorem abY : T 94 = some (.go cR) := rfl
theorem abX : T 95 = some (.go bd) := rfl
theorem abW : T 96 = some (.go cK) := rfl
theorem abV : T 97 = some (.go dC) := rfl
theorem abU : T 98 = some (.go ct) := rfl
theorem abT : T 99 = some (.go bH) := rfl
theorem Yr : T 100 = some (.go dB) := rfl
theorem Yq : T 101 = some (.go jU) := rfl
theorem Yp : T 102 = some (.go dD) := rfl
theorem Yo : T 103 = some (.go bQ) := rfl
end
section
class Has (T : Nat -> Option iz) (f : Nat) (e : outParam iz) : Prop where
 has : T f = some e
def nb (n i : Nat) : Nat := n + i
def ext (m : Mem) (xs : List fQ) : Mem := xs.foldl Mem.new m
theorem Hi {m : Mem} {x : fQ} : m.new x = ext m [x] := rfl
theorem C9 {m : Mem} {xs ys : List fQ} : ext (ext m xs) ys = ext m (xs ++ ys) := by unfold ext; rw [List.foldl_append]
theorem e6 {n i j : Nat} : nb (nb n i) j = nb n (i + j) := Nat.add_assoc n i j
theorem aM {m : Mem} {xs : List fQ} : (ext m xs).next = nb m.next xs.length := by
 unfold ext nb
 induction xs generalizing m with
 | nil => rfl
 | cons x xs ih => rw [List.foldl_cons, ih]; show m.next + 1 + _ = _; rw [List.length_cons]; omega
theorem cf {m : Mem} {b : Nat} {x : fQ} : (m.set b x).next = m.next := rfl
theorem js {m : Mem} {x : fQ} : (m.new x).next = m.next + 1 := rfl
theorem fm {m : Mem} {x : fQ} {b : Nat} : (m.new x).get b = if b = m.next then x else m.get b := by
 unfold Mem.get Mem.new; simp only; rw [Tr.bW]; split <;> rfl
theorem bW {m : Mem} {x : fQ} {b c : Nat} : (m.set c x).get b = if b = c then x else m.get b := by
 unfold Mem.get Mem.set; simp only; rw [Tr.bW]; split <;> rfl
theorem bK {m : Mem} {x : fQ} {b : Nat} : (m.set b x).get b = x := by rw [bW, if_pos rfl]
theorem az {m : Mem} {x : fQ} {b c : Nat} (h : b ≠ c) : (m.set c x).get b = m.get b := by rw [bW, if_neg h]
theorem aL {m : Mem} {xs : List fQ} {b : Nat} (h : b < m.next) : (ext m xs).get b = m.get b := by
 unfold ext
 induction xs generalizing m with
 | nil => rfl
 | cons x xs ih => rw [List.foldl_cons, ih (by rw [js]; omega), fm, if_neg (by omega)]
theorem aK {m : Mem} {xs : List fQ} {n i : Nat} (hn : m.next = n) (h : i < xs.length) : (ext m xs).get (nb n i) = xs[i]?.getD .dead := by
 subst hn;unfold ext nb
 induction xs generalizing m i with
 | nil => simp at h
 | cons x xs ih =>
  rw [List.foldl_cons]
  cases i with
  | zero =>
   have := aL (m := m.new x) (xs := xs) (b := m.next) (by rw [js]; omega)
   unfold ext at this;rw [Nat.add_zero, this, fm, if_pos rfl]; rfl
  | succ i =>
   have := ih (m := m.new x) (i := i) (by simpa using h)
   rw [js, show m.next + 1 + i = m.next + (i + 1) by omega] at this;rw [this]; rfl
def Aj (m m' : Mem) : Prop := ∀ b, b < m.next -> m'.get b = m.get b
theorem El {m : Mem} : Aj m m := fun _ _ => rfl
theorem AJ {m : Mem} {xs : List fQ} : Aj m (ext m xs) := fun _ h => aL h
def ldB (x : fQ) (agg : Option Nat) (off : Nat) : Option EV := match x with
 | .cells cs _ _ _ => partOf agg cs off
 | _ => none
theorem wm {m : Mem} {agg : Option Nat} {b off : Nat} : m.load agg (.ptr b off) = ldB (m.get b) agg off := by
 simp only [Mem.load, ldB]; cases m.get b <;> rfl
theorem wv {cs : List EV} {e t : Nat} {ro : Bool} {agg : Option Nat} {off : Nat} : ldB (.cells cs e t ro) agg off = partOf agg cs off := rfl
theorem v8 {cs : List EV} {off : Nat} : partOf none cs off = cs[off]? := rfl
theorem v7 {cs : List EV} {off n : Nat} (h : off + n <= cs.length) : partOf (some n) cs off = some (.agg ((cs.drop off).take n)) := by
 show (bif (off + n).ble cs.length then some (EV.agg ((cs.drop off).take n)) else none) = _
 rw [A8 h]; rfl
def Zf (m : Mem) (size b off : Nat) (vs : Option (List EV)) : Option Mem := match vs with
 | some vs => bif vs.length.beq size then m.write b off vs else none
 | none => none
theorem sA {m : Mem} {size b off : Nat} {x : EV} : m.store size (.ptr b off) x = Zf m size b off x.cells := by
 simp only [Mem.store, Zf]; cases x.cells <;> rfl
theorem yu {m : Mem} {size b off : Nat} {vs : List EV} (h : vs.length = size) : Zf m size b off (some vs) = m.write b off vs := by
 show (bif vs.length.beq size then m.write b off vs else none) = _
 rw [h, dM]; rfl
def Y9 (m : Mem) (b off : Nat) (vs : List EV) (x : fQ) : Option Mem := match x with
 | .cells cs esz elem ro => bif ro then none else (jb cs off vs).map fun cs => m.set b (.cells cs esz elem ro)
 | _ => none
theorem ya {m : Mem} {b off : Nat} {vs : List EV} : m.write b off vs = Y9 m b off vs (m.get b) := by simp only [Mem.write, Y9]; cases m.get b <;> rfl
theorem vo {m : Mem} {b off : Nat} {vs cs : List EV} {e t : Nat} (h : off + vs.length <= cs.length) : Y9 m b off vs (.cells cs e t false) = some (m.set b (.cells (cs.take off ++ vs ++ cs.drop (off + vs.length)) e t false)) := by
 show (bif false then none else (jb cs off vs).map fun cs => m.set b (.cells cs e t false)) = _
 unfold jb; rw [A8 h]; rfl
theorem wT {k : IntKind} {n : Int} : (EV.int k n).cells = some [.int k n] := rfl
theorem tT {b : Bool} : (EV.bool b).cells = some [.bool b] := rfl
theorem Aa {p : Prop} : (bo p).cells = some [bo p] := rfl
theorem wP {s : List UInt8} : (EV.str s).cells = some [.str s] := rfl
theorem oG : EV.bL.cells = some [.bL] := rfl
theorem wR {b o : Nat} : (EV.ptr b o).cells = some [.ptr b o] := rfl
theorem lS : EV.ae.cells = some [.ae] := rfl
theorem qG {b o l : Nat} {c : Option Nat} : (EV.slice b o l c).cells = some [.slice b o l c] := rfl
theorem oH : EV.bB.cells = some [.bB] := rfl
theorem wS {b : Nat} : (EV.map b).cells = some [.map b] := rfl
theorem mX : EV.aN.cells = some [.aN] := rfl
theorem tR {f : Nat} {x y : List EV} : (EV.func f x y).cells = some [.func f x y] := rfl
theorem lT : EV.aC.cells = some [.aC] := rfl
theorem qH {t : Nat} {v : EV} : (EV.iface t v).cells = some [.iface t v] := rfl
theorem wU {cs : List EV} : (EV.agg cs).cells = some cs := rfl
def Nj (cs : List EV) (off size : Nat) (vs : Option (List EV)) (r : List (Nat × Nat × EV)) : Option (List EV) := match vs with
 | some vs => bif vs.length.beq size then match jb cs off vs with
   | some cs => fw cs r
   | none => none
  else none
 | none => none
theorem rP {cs : List EV} : fw cs [] = some cs := rfl
theorem rQ {cs : List EV} {off size : Nat} {v : EV} {r : List (Nat × Nat × EV)} : fw cs ((off, size, v) :: r) = Nj cs off size v.cells r := by simp only [Nj, fw]; cases v.cells <;> rfl
theorem pi {cs : List EV} {off size : Nat} {vs : List EV} {r : List (Nat × Nat × EV)} (h : vs.length = size) (h2 : off + vs.length <= cs.length) : Nj cs off size (some vs) r = fw (cs.take off ++ vs ++ cs.drop (off + vs.length)) r := by
 show (bif vs.length.beq size then match jb cs off vs with | some cs => fw cs r | none => none else none) = _
 unfold jb; rw [h, dM, A8 (by rw [<- h]; exact h2)]; rfl
def V1 (elem : Nat) (m : Mem) (vs : Option (List EV)) : Option R1 := match vs with
 | some cs => some (.val (.ptr (nb m.next 0) 0) (ext m [.cells cs cs.length elem false]))
 | none => none
theorem wH {ρ : aV -> EV} {m : Mem} {elem : Nat} {x : aV} : aA ρ (.box elem x) m = V1 elem m (ρ x).cells := by
 simp only [aA]; unfold V1; cases (ρ x).cells <;> rfl
theorem wV {elem : Nat} {m : Mem} {cs : List EV} : V1 elem m (some cs) = some (.val (.ptr (nb m.next 0) 0) (ext m [.cells cs cs.length elem false])) := rfl
theorem qC {ρ : aV -> EV} {m : Mem} {elem : Nat} {zero : List EV} : aA ρ (.alloc elem zero) m = some (.val (.ptr (nb m.next 0) 0) (ext m [.cells zero zero.length elem false])) := rfl
theorem qn {ρ : aV -> EV} {m : Mem} : aA ρ .uP m = some (.val (.map (nb m.next 0)) (ext m [.map []])) := rfl
theorem Qi {α : Type} (x y : α) (p : List Bool) : ∀ t : Tr α, (t.put x p).put y p = t.put y p := by
 induction p with
 | nil => intro t; cases t <;> rfl
 | cons b p ih => intro t; cases t <;> cases b <;> simp [Tr.put, ih]
theorem put_comm {α : Type} (x y : α) (p : List Bool) : ∀ (q : List Bool) (t : Tr α), p ≠ q -> (t.put x p).put y q = (t.put y q).put x p := by
 induction p with
 | nil =>
  intro q t h
  cases q with
  | nil => exact absurd rfl h
  | cons c q => cases t <;> cases c <;> simp [Tr.put]
 | cons b p ih =>
  intro q t h
  cases q with
  | nil => cases t <;> cases b <;> simp [Tr.put]
  | cons c q =>
   by_cases Rt : b = c
   ·subst Rt
    have hpq : p ≠ q := fun e => h (by rw [e])
    cases t <;> cases b <;> simp [Tr.put, ih _ _ hpq]
   ·cases t <;> cases b <;> cases c <;> simp [Tr.put] at Rt ⊢
theorem S5 {m : Mem} {b : Nat} {x y : fQ} (h : b < m.next) : (m.new y).set b x = (m.set b x).new y := by
 unfold Mem.set Mem.new Tr.set; simp only; rw [put_comm _ _ _ _ _ (fun e => by have := IP e; omega)]
theorem Hh {m : Mem} {x y : fQ} : (m.new y).set m.next x = m.new x := by
 unfold Mem.set Mem.new Tr.set; simp only; rw [Qi]
theorem nf {m : Mem} {xs : List fQ} {b : Nat} {x : fQ} (h : b < m.next) : (ext m xs).set b x = ext (m.set b x) xs := by
 unfold ext
 induction xs generalizing m with
 | nil => rfl
 | cons y ys ih => rw [List.foldl_cons, ih (by rw [js]; omega), S5 h]; rfl
theorem oW {m : Mem} {xs : List fQ} {n i : Nat} {x : fQ} (hn : m.next = n) (h : i < xs.length) : (ext m xs).set (nb n i) x = ext m (xs.set i x) := by
 subst hn
 induction xs generalizing m i with
 | nil => simp at h
 | cons y ys ih =>
  cases i with
  | zero =>
   have := nf (m := m.new y) (xs := ys) (b := m.next) (x := x) (by rw [js]; omega)
   rw [Hh] at this;exact this
  | succ i =>
   have := ih (m := m.new y) (i := i) (by simpa using h)
   rw [js] at this;unfold nb at this ⊢
   rw [show m.next + (i + 1) = m.next + 1 + i by omega];exact this
open Classical in
noncomputable def aaK (T : Nat -> Option iz) (f : Nat) : List EV -> Mem -> Option EV := fun args m => match run T f args m with
 | some (.ret v m') => if Flat v = true /\ Aj m m' then some v else none
 | _ => none
end
end Go.Proofs.YtdiccmapankckaaDoor.Ev
