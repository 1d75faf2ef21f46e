/- EvF2, EvF3, EvF4, EvLaw, EvLim. -/
import Derived.Below
import Derived.Test.YtdiccmapankckaaDoorMc
set_option linter.unusedSimpArgs false
set_option linter.unusedVariables false
set_option linter.unusedSectionVars false
set_option linter.defProp false
set_option maxRecDepth 20000
set_option maxHeartbeats 8000000
namespace Go.Proofs.YtdiccmapankckaaDoor.Ev
open Go
section
/- balustrade/balustraderef06.kids -/
abbrev Vc : Nat := 37
def F8 : aE :=
 (.seq
 (.seq
 (.region [iV 117 (.aa (tm 6)),
 iV 118 (.aa (tm 5)),
 iV 119 (.len (tm 118)),
 iV 120 (.bin .lss (tm 117) (tm 119))])
 (.cond (.tmp 120)
 .skip
 (.exit 1)))
 (.seq
 (.block 2
 (.seq
 (.region [iV 123 (.aa (tm 0)),
 iV 124 (.aa (tm 5)),
 iV 125 (.aa (tm 6)),
 iV 126 (.cS 1 (tm 124) (tm 125)),
 iV 127 (.load none (tm 126)),
 iV 128 (.cS 5 (tm 123) (tm 127)),
 iV 129 (.aj 0 (tm 128)),
 iV 130 (.load none (tm 129)),
 iC 131 65 [(tm 130)],
 iV 132 (.un .not (tm 131))])
 (.cond (.tmp 132)
 (.seq
 (.region [iV 4 (.aa (.const (.bool false)))])
 .ret)
 .skip)))
 (.region [iV 121 (.aa (tm 6)),
 iV 122 (.bin .add (tm 121) (kI 1)),
 iV 6 (.aa (tm 122))])))
def mI : au :=
 ⟨168,
 (.seq
 (.region [iV 3 (.box 39 (tm 1)),
 iV 4 (.aa (.const (.bool false)))])
 (.seq
 (.region [iV 7 (.aj 1 (tm 3)),
 iV 8 (.load none (tm 7)),
 iV 5 (.aa (tm 8))])
 (.seq
 (.seq
 (.region [iV 9 (.aj 0 (tm 3)),
 iV 10 (.load none (tm 9))])
 (.block 0
 (.seq
 (.seq
 (.region [iV 12 (.eq false (.aG 1) (tm 10) (kI 5)),
 iV 11 (.aa (tm 12))])
 (.cond (.tmp 11)
 .skip
 (.seq
 (.region [iV 13 (.eq false (.aG 1) (tm 10) (kI 8)),
 iV 11 (.aa (tm 13))])
 (.cond (.tmp 11)
 .skip
 (.region [iV 14 (.eq false (.aG 1) (tm 10) (kI 14)),
 iV 11 (.aa (tm 14))])))))
 (.cond (.tmp 11)
 (.seq
 (.region [iV 15 (.aa (tm 5)),
 iV 16 (.len (tm 15)),
 iV 17 (.eq false (.aG 1) (tm 16) (kI 2)),
 iV 18 (.aa (tm 17)),
 iG 19 (.aa (tm 0)) 18 true,
 iG 20 (.aa (tm 5)) 18 true,
 iH 21 63 [(tm 19), (tm 20), (kI 2)] 18 true,
 iV 22 (.pick (tm 18) (tm 21) (.const (.bool false))),
 iV 4 (.aa (tm 22))])
 .ret)
 (.seq
 (.seq
 (.region [iV 24 (.eq false (.aG 1) (tm 10) (kI 6)),
 iV 23 (.aa (tm 24))])
 (.cond (.tmp 23)
 .skip
 (.seq
 (.region [iV 25 (.eq false (.aG 1) (tm 10) (kI 7)),
 iV 23 (.aa (tm 25))])
 (.cond (.tmp 23)
 .skip
 (.seq
 (.region [iV 26 (.eq false (.aG 1) (tm 10) (kI 9)),
 iV 23 (.aa (tm 26))])
 (.cond (.tmp 23)
 .skip
 (.seq
 (.region [iV 27 (.eq false (.aG 1) (tm 10) (kI 10)),
 iV 23 (.aa (tm 27))])
 (.cond (.tmp 23)
 .skip
 (.seq
 (.region [iV 28 (.eq false (.aG 1) (tm 10) (kI 12)),
 iV 23 (.aa (tm 28))])
 (.cond (.tmp 23)
 .skip
 (.seq
 (.region [iV 29 (.eq false (.aG 1) (tm 10) (kI 13)),
 iV 23 (.aa (tm 29))])
 (.cond (.tmp 23)
 .skip
 (.seq
 (.region [iV 30 (.eq false (.aG 1) (tm 10) (kI 20)),
 iV 23 (.aa (tm 30))])
 (.cond (.tmp 23)
 .skip
 (.region [iV 31 (.eq false (.aG 1) (tm 10) (kI 21)),
 iV 23 (.aa (tm 31))])))))))))))))))
 (.cond (.tmp 23)
 (.seq
 (.region [iV 32 (.aa (tm 5)),
 iV 33 (.len (tm 32)),
 iV 34 (.eq false (.aG 1) (tm 33) (kI 1)),
 iV 35 (.aa (tm 34)),
 iG 36 (.aa (tm 0)) 35 true,
 iG 37 (.aa (tm 5)) 35 true,
 iH 38 63 [(tm 36), (tm 37), (kI 1)] 35 true,
 iV 39 (.pick (tm 35) (tm 38) (.const (.bool false))),
 iV 4 (.aa (tm 39))])
 .ret)
 (.seq
 (.region [iV 41 (.eq false (.aG 1) (tm 10) (kI 11)),
 iV 40 (.aa (tm 41))])
 (.cond (.tmp 40)
 (.seq
 (.region [iV 42 (.aa (tm 5)),
 iV 43 (.len (tm 42)),
 iV 44 (.bin .leq (tm 43) (kI 8)),
 iV 45 (.aa (tm 44)),
 iG 46 (.aa (tm 0)) 45 true,
 iG 47 (.aa (tm 5)) 45 true,
 iG 48 (.aa (tm 5)) 45 true,
 iG 49 (.len (tm 48)) 45 true,
 iH 50 63 [(tm 46), (tm 47), (tm 49)] 45 true,
 iV 51 (.pick (tm 45) (tm 50) (.const (.bool false))),
 iV 4 (.aa (tm 51))])
 .ret)
 (.seq
 (.region [iV 53 (.eq false (.aG 1) (tm 10) (kI 15)),
 iV 52 (.aa (tm 53))])
 (.cond (.tmp 52)
 (.seq
 (.region [iV 54 (.aa (tm 0)),
 iV 55 (.aa (tm 5)),
 iC 56 63 [(tm 54), (tm 55), (kI 1)],
 iV 57 (.aa (tm 56)),
 iG 58 (.aa (tm 5)) 57 true,
 iG 59 (.len (tm 58)) 57 true,
 iG 60 (.bin .geq (tm 59) (kI 2)) 57 true,
 iV 61 (.pick (tm 57) (tm 60) (.const (.bool false))),
 iV 62 (.aa (tm 61)),
 iG 63 (.aa (tm 0)) 62 true,
 iG 64 (.aa (tm 5)) 62 true,
 iG 65 (.uL 1 (tm 64) (some (kI 1)) none none) 62 true,
 iH 66 64 [(tm 63), (tm 65), (kI 23), (kI 2)] 62 true,
 iV 67 (.pick (tm 62) (tm 66) (.const (.bool false))),
 iV 4 (.aa (tm 67))])
 .ret)
 (.seq
 (.region [iV 69 (.eq false (.aG 1) (tm 10) (kI 16)),
 iV 68 (.aa (tm 69))])
 (.cond (.tmp 68)
 (.seq
 (.region [iV 70 (.aa (tm 0)),
 iV 71 (.aa (tm 5)),
 iC 72 63 [(tm 70), (tm 71), (kI 1)],
 iV 73 (.aa (tm 72)),
 iG 74 (.aa (tm 5)) 73 true,
 iG 75 (.len (tm 74)) 73 true,
 iG 76 (.eq false (.aG 1) (tm 75) (kI 2)) 73 true,
 iV 77 (.pick (tm 73) (tm 76) (.const (.bool false))),
 iV 78 (.aa (tm 77)),
 iG 79 (.aa (tm 0)) 78 true,
 iG 80 (.aa (tm 5)) 78 true,
 iG 81 (.uL 1 (tm 80) (some (kI 1)) none none) 78 true,
 iH 82 64 [(tm 79), (tm 81), (kI 23), (kI 1)] 78 true,
 iV 83 (.pick (tm 78) (tm 82) (.const (.bool false))),
 iV 4 (.aa (tm 83))])
 .ret)
 (.seq
 (.region [iV 85 (.eq false (.aG 1) (tm 10) (kI 17)),
 iV 84 (.aa (tm 85))])
 (.cond (.tmp 84)
 (.seq
 (.region [iV 86 (.aa (tm 0)),
 iV 87 (.aa (tm 5)),
 iC 88 63 [(tm 86), (tm 87), (kI 2)],
 iV 89 (.aa (tm 88)),
 iG 90 (.aa (tm 5)) 89 true,
 iG 91 (.len (tm 90)) 89 true,
 iG 92 (.eq false (.aG 1) (tm 91) (kI 3)) 89 true,
 iV 93 (.pick (tm 89) (tm 92) (.const (.bool false))),
 iV 94 (.aa (tm 93)),
 iG 95 (.aa (tm 0)) 94 true,
 iG 96 (.aa (tm 5)) 94 true,
 iG 97 (.uL 1 (tm 96) (some (kI 2)) none none) 94 true,
 iH 98 64 [(tm 95), (tm 97), (kI 23), (kI 1)] 94 true,
 iV 99 (.pick (tm 94) (tm 98) (.const (.bool false))),
 iV 4 (.aa (tm 99))])
 .ret)
 (.seq
 (.region [iV 101 (.eq false (.aG 1) (tm 10) (kI 22)),
 iV 100 (.aa (tm 101))])
 (.cond (.tmp 100)
 (.seq
 (.region [iV 102 (.aa (tm 5)),
 iV 103 (.len (tm 102)),
 iV 104 (.eq false (.aG 1) (tm 103) (kI 1)),
 iV 105 (.aa (tm 104)),
 iG 106 (.aa (tm 0)) 105 true,
 iG 107 (.aa (tm 5)) 105 true,
 iG 108 (.cS 1 (tm 107) (kI 0)) 105 true,
 iG 109 (.load none (tm 108)) 105 true,
 iG 110 (.cS 5 (tm 106) (tm 109)) 105 true,
 iG 111 (.aj 0 (tm 110)) 105 true,
 iG 112 (.load none (tm 111)) 105 true,
 iG 113 (.eq false (.aG 1) (tm 112) (kI 11)) 105 true,
 iV 114 (.pick (tm 105) (tm 113) (.const (.bool false))),
 iV 4 (.aa (tm 114))])
 .ret)
 (.seq
 (.region [iV 116 (.eq false (.aG 1) (tm 10) (kI 23)),
 iV 115 (.aa (tm 116))])
 (.cond (.tmp 115)
 (.seq
 (.seq
 (.region [iV 6 (.aa (kI 0))])
 (.block 1
 (.loop F8)))
 (.seq
 (.region [iV 4 (.aa (.const (.bool true)))])
 .ret))
 (.seq
 (.region [iV 134 (.eq false (.aG 1) (tm 10) (kI 25)),
 iV 133 (.aa (tm 134))])
 (.cond (.tmp 133)
 (.seq
 (.region [iV 135 (.aa (tm 5)),
 iV 136 (.len (tm 135)),
 iV 137 (.bin .geq (tm 136) (kI 1)),
 iV 138 (.aa (tm 137)),
 iG 139 (.aa (tm 0)) 138 true,
 iG 140 (.aa (tm 5)) 138 true,
 iG 141 (.aa (tm 5)) 138 true,
 iG 142 (.len (tm 141)) 138 true,
 iG 143 (.bin .sub (tm 142) (kI 1)) 138 true,
 iG 144 (.uL 1 (tm 140) none (some (tm 143)) none) 138 true,
 iH 145 64 [(tm 139), (tm 144), (kI 24), (kI 8)] 138 true,
 iV 146 (.pick (tm 138) (tm 145) (.const (.bool false))),
 iV 147 (.aa (tm 146)),
 iG 148 (.aa (tm 0)) 147 true,
 iG 149 (.aa (tm 5)) 147 true,
 iG 150 (.aa (tm 5)) 147 true,
 iG 151 (.len (tm 150)) 147 true,
 iG 152 (.bin .sub (tm 151) (kI 1)) 147 true,
 iG 153 (.cS 1 (tm 149) (tm 152)) 147 true,
 iG 154 (.load none (tm 153)) 147 true,
 iG 155 (.cS 5 (tm 148) (tm 154)) 147 true,
 iG 156 (.aj 0 (tm 155)) 147 true,
 iG 157 (.load none (tm 156)) 147 true,
 iG 158 (.eq false (.aG 1) (tm 157) (kI 23)) 147 true,
 iV 159 (.pick (tm 147) (tm 158) (.const (.bool false))),
 iV 4 (.aa (tm 159))])
 .ret)
 (.seq
 (.region [iV 161 (.eq false (.aG 1) (tm 10) (kI 26)),
 iV 160 (.aa (tm 161))])
 (.cond (.tmp 160)
 (.seq
 (.region [iV 162 (.aa (tm 0)),
 iV 163 (.aa (tm 5)),
 iC 164 64 [(tm 162), (tm 163), (kI 25), (kI 200)],
 iV 4 (.aa (tm 164))])
 .ret)
 .skip))))))))))))))))))))))
 (.seq
 (.region [iV 165 (.aa (tm 5)),
 iV 166 (.len (tm 165)),
 iV 167 (.eq false (.aG 1) (tm 166) (kI 0)),
 iV 4 (.aa (tm 167))])
 .ret)))),
 [.tmp 4]⟩
theorem aaI : bP Tryd.prog G Tryd.f37 = some mI := by kernel_rfl
/- balustrade/balustraderef06.Height -/
abbrev S4 : Nat := 38
def BW : aE :=
 (.seq
 (.seq
 (.region [iV 7 (.aa (tm 6)),
 iV 8 (.aa (tm 0)),
 iV 9 (.aa (tm 1)),
 iV 10 (.cS 5 (tm 8) (tm 9)),
 iV 11 (.aj 1 (tm 10)),
 iV 12 (.load none (tm 11)),
 iV 13 (.len (tm 12)),
 iV 14 (.bin .lss (tm 7) (tm 13))])
 (.cond (.tmp 14)
 .skip
 (.exit 0)))
 (.seq
 (.block 1
 (.region [iV 17 (.aa (tm 5)),
 iV 18 (.aa (tm 0)),
 iV 19 (.aa (tm 0)),
 iV 20 (.aa (tm 1)),
 iV 21 (.cS 5 (tm 19) (tm 20)),
 iV 22 (.aj 1 (tm 21)),
 iV 23 (.load none (tm 22)),
 iV 24 (.aa (tm 6)),
 iV 25 (.cS 1 (tm 23) (tm 24)),
 iV 26 (.load none (tm 25)),
 iC 27 38 [(tm 18), (tm 26)],
 iV 28 (.bin .add (kI 1) (tm 27)),
 iV 29 (.max [(tm 17), (tm 28)]),
 iV 5 (.aa (tm 29))]))
 (.region [iV 15 (.aa (tm 6)),
 iV 16 (.bin .add (tm 15) (kI 1)),
 iV 6 (.aa (tm 16))])))
def j6 : au :=
 ⟨31,
 (.seq
 (.region [iV 4 (.aa (kI 0))])
 (.seq
 (.region [iV 5 (.aa (kI 1))])
 (.seq
 (.seq
 (.region [iV 6 (.aa (kI 0))])
 (.block 0
 (.loop BW)))
 (.seq
 (.region [iV 30 (.aa (tm 5)),
 iV 4 (.aa (tm 30))])
 .ret)))),
 [.tmp 4]⟩
theorem aaH : bP Tryd.prog G Tryd.f38 = some j6 := by kernel_rfl
/- balustrade/balustradebase.Itoa -/
abbrev Uj : Nat := 39
def Fs : aE :=
 (.seq
 (.seq
 (.region [iV 9 (.aa (tm 4)),
 iV 10 (.eq true (.aG 1) (tm 9) (kI 0))])
 (.cond (.tmp 10)
 .skip
 (.exit 0)))
 (.block 1
 (.seq
 (.region [iV 11 (.aa (tm 4)),
 iV 12 (.bin .rem (tm 11) (kI 10)),
 iV 5 (.aa (tm 12))])
 (.seq
 (.seq
 (.region [iV 13 (.aa (tm 5)),
 iV 14 (.bin .lss (tm 13) (kI 0))])
 (.cond (.tmp 14)
 (.region [iV 15 (.aa (tm 5)),
 iV 16 (.un .neg (tm 15)),
 iV 5 (.aa (tm 16))])
 .skip))
 (.seq
 (.region [iV 17 (.aa (tm 5)),
 iV 18 (.bin .add (kI 48) (tm 17)),
 iV 19 (.conv (.int .u8) (tm 18)),
 iV 20 (.bt 5 1 1 [(.int .u8 0)] [(0, (tm 19))]),
 iV 21 (.conv .text (tm 20)),
 iV 22 (.aa (tm 3)),
 iV 23 (.bin .add (tm 21) (tm 22)),
 iV 3 (.aa (tm 23))])
 (.region [iV 24 (.aa (tm 4)),
 iV 25 (.bin .quo (tm 24) (kI 10)),
 iV 4 (.aa (tm 25))]))))))
def lA : au :=
 ⟨31,
 (.seq
 (.region [iV 2 (.aa (kS []))])
 (.seq
 (.seq
 (.region [iV 6 (.aa (tm 0)),
 iV 7 (.eq false (.aG 1) (tm 6) (kI 0))])
 (.cond (.tmp 7)
 (.seq
 (.region [iV 2 (.aa (kS [48]))])
 .ret)
 .skip))
 (.seq
 (.region [iV 8 (.aa (tm 0)),
 iV 3 (.aa (kS [])),
 iV 4 (.aa (tm 8))])
 (.seq
 (.block 0
 (.loop Fs))
 (.seq
 (.seq
 (.region [iV 26 (.aa (tm 0)),
 iV 27 (.bin .lss (tm 26) (kI 0))])
 (.cond (.tmp 27)
 (.region [iV 28 (.aa (tm 3)),
 iV 29 (.bin .add (kS [45]) (tm 28)),
 iV 3 (.aa (tm 29))])
 .skip))
 (.seq
 (.region [iV 30 (.aa (tm 3)),
 iV 2 (.aa (tm 30))])
 .ret)))))),
 [.tmp 2]⟩
theorem aaG : bP Tryd.prog G Tryd.f39 = some lA := by kernel_rfl
/- balustrade/balustraderef06.word -/
abbrev Vb : Nat := 40
def mH : au :=
 ⟨20,
 (.seq
 (.region [iV 1 (.box 39 (tm 0)),
 iV 2 (.aa (kS []))])
 (.seq
 (.region [iV 4 (.bt 9 1 26 [(.str [])] [(0, (kS [])), (1, (kS [])), (2, (kS [110, 105, 108])), (3, (kS [])), (4, (kS [])), (5, (kS [110, 101, 103])), (6, (kS [110, 111, 116])), (7, (kS [97, 116])), (8, (kS [108, 101, 110])), (9, (kS [110, 101, 119])), (10, (kS [99, 97, 108, 108])), (11, (kS [118, 97, 114])), (12, (kS [115, 101, 116])), (13, (kS [112, 117, 116])), (14, (kS [105, 102])), (15, (kS [119, 104, 105, 108, 101])), (16, (kS [102, 111, 114])), (17, (kS [98, 114, 101, 97, 107])), (18, (kS [99, 111, 110, 116, 105, 110, 117, 101])), (19, (kS [114, 101, 116, 117, 114, 110])), (20, (kS [112, 114, 105, 110, 116])), (21, (kS [100, 111])), (22, (kS [98, 108, 111, 99, 107])), (23, (kS [])), (24, (kS [102, 110])), (25, (kS [112, 114, 111, 103]))]),
 iV 3 (.aa (tm 4))])
 (.seq
 (.seq
 (.region [iV 5 (.aj 0 (tm 1)),
 iV 6 (.load none (tm 5)),
 iV 7 (.eq false (.aG 1) (tm 6) (kI 5))])
 (.cond (.tmp 7)
 (.seq
 (.draw [iC 8 66 [],
 iV 9 (.aj 2 (tm 1)),
 iV 10 (.load none (tm 9)),
 iV 11 (.bin .sub (tm 10) (kI 1)),
 iV 12 (.cS 1 (tm 8) (tm 11)),
 iV 13 (.load none (tm 12)),
 iV 2 (.aa (tm 13))] [(2, 0)])
 .ret)
 .skip))
 (.seq
 (.region [iV 14 (.aa (tm 3)),
 iV 15 (.aj 0 (tm 1)),
 iV 16 (.load none (tm 15)),
 iV 17 (.bin .sub (tm 16) (kI 1)),
 iV 18 (.cS 1 (tm 14) (tm 17)),
 iV 19 (.load none (tm 18)),
 iV 2 (.aa (tm 19))])
 .ret)))),
 [.tmp 2]⟩
theorem aaF : bP Tryd.prog G Tryd.f40 = some mH := by kernel_rfl
/- balustrade/balustraderef06.Kind -/
abbrev Vf : Nat := 41
def mL : au :=
 ⟨16,
 (.seq
 (.region [iV 2 (.aa (kS []))])
 (.seq
 (.region [iV 4 (.bt 9 1 3 [(.str [])] [(0, (kS [105, 110, 116])), (1, (kS [98, 111, 111, 108])), (2, (kS [97, 114, 114]))]),
 iV 3 (.aa (tm 4))])
 (.seq
 (.seq
 (.region [iV 5 (.aa (tm 0)),
 iV 6 (.bin .lss (tm 5) (kI 1)),
 iV 7 (.aa (tm 6)),
 iG 8 (.aa (tm 0)) 7 false,
 iG 9 (.bin .gtr (tm 8) (kI 3)) 7 false,
 iV 10 (.pick (tm 7) (.const (.bool true)) (tm 9))])
 (.cond (.tmp 10)
 (.seq
 (.region [iV 2 (.aa (kS []))])
 .ret)
 .skip))
 (.seq
 (.region [iV 11 (.aa (tm 3)),
 iV 12 (.aa (tm 0)),
 iV 13 (.bin .sub (tm 12) (kI 1)),
 iV 14 (.cS 1 (tm 11) (tm 13)),
 iV 15 (.load none (tm 14)),
 iV 2 (.aa (tm 15))])
 .ret)))),
 [.tmp 2]⟩
theorem aaE : bP Tryd.prog G Tryd.f41 = some mL := by kernel_rfl
/- balustrade/balustraderef05.Blank -/
abbrev Jt : Nat := 42
def iU : au :=
 ⟨17,
 (.seq
 (.region [iV 2 (.aa (.const (.bool false)))])
 (.seq
 (.region [iV 3 (.aa (tm 0)),
 iV 4 (.eq false (.aG 1) (tm 3) (.const (.int .u8 32))),
 iV 5 (.aa (tm 4)),
 iG 6 (.aa (tm 0)) 5 false,
 iG 7 (.eq false (.aG 1) (tm 6) (.const (.int .u8 9))) 5 false,
 iV 8 (.pick (tm 5) (.const (.bool true)) (tm 7)),
 iV 9 (.aa (tm 8)),
 iG 10 (.aa (tm 0)) 9 false,
 iG 11 (.eq false (.aG 1) (tm 10) (.const (.int .u8 10))) 9 false,
 iV 12 (.pick (tm 9) (.const (.bool true)) (tm 11)),
 iV 13 (.aa (tm 12)),
 iG 14 (.aa (tm 0)) 13 false,
 iG 15 (.eq false (.aG 1) (tm 14) (.const (.int .u8 13))) 13 false,
 iV 16 (.pick (tm 13) (.const (.bool true)) (tm 15)),
 iV 2 (.aa (tm 16))])
 .ret)),
 [.tmp 2]⟩
theorem aaD : bP Tryd.prog G Tryd.f42 = some iU := by kernel_rfl
/- balustrade/balustraderef05.Digit -/
abbrev Js : Nat := 43
def iT : au :=
 ⟨9,
 (.seq
 (.region [iV 2 (.aa (.const (.bool false)))])
 (.seq
 (.region [iV 3 (.aa (tm 0)),
 iV 4 (.bin .geq (tm 3) (.const (.int .u8 48))),
 iV 5 (.aa (tm 4)),
 iG 6 (.aa (tm 0)) 5 true,
 iG 7 (.bin .leq (tm 6) (.const (.int .u8 57))) 5 true,
 iV 8 (.pick (tm 5) (tm 7) (.const (.bool false))),
 iV 2 (.aa (tm 8))])
 .ret)),
 [.tmp 2]⟩
theorem aaC : bP Tryd.prog G Tryd.f43 = some iT := by kernel_rfl
/- balustrade/balustraderef05.number -/
abbrev HC : Nat := 44
def fQ : aE :=
 (.seq
 (.seq
 (.region [iV 7 (.aa (tm 5)),
 iV 8 (.aa (tm 0)),
 iV 9 (.cD (tm 8)),
 iV 10 (.bin .lss (tm 7) (tm 9))])
 (.cond (.tmp 10)
 .skip
 (.exit 0)))
 (.seq
 (.block 1
 (.seq
 (.region [iV 13 (.aa (tm 0)),
 iV 14 (.aa (tm 5)),
 iV 15 (.eu (tm 13) (tm 14)),
 iV 16 (.bin .sub (tm 15) (.const (.int .u8 48))),
 iV 17 (.conv (.int .i64) (tm 16)),
 iV 6 (.aa (tm 17))])
 (.seq
 (.seq
 (.region [iV 18 (.aa (tm 4)),
 iV 19 (.bin .gtr (tm 18) (kI 922337203685477580)),
 iV 20 (.aa (tm 19)),
 iG 21 (.aa (tm 4)) 20 false,
 iG 22 (.eq false (.aG 1) (tm 21) (kI 922337203685477580)) 20 false,
 iG 23 (.aa (tm 22)) 20 false,
 iG 24 (.aa (tm 6)) 23 true,
 iG 25 (.bin .gtr (tm 24) (kI 7)) 23 true,
 iG 26 (.pick (tm 23) (tm 25) (.const (.bool false))) 20 false,
 iV 27 (.pick (tm 20) (.const (.bool true)) (tm 26))])
 (.cond (.tmp 27)
 (.seq
 (.region [iV 2 (.aa (kI 0)),
 iV 3 (.aa (.const (.bool false)))])
 .ret)
 .skip))
 (.region [iV 28 (.aa (tm 4)),
 iV 29 (.bin .mul (kI 10) (tm 28)),
 iV 30 (.aa (tm 6)),
 iV 31 (.bin .add (tm 29) (tm 30)),
 iV 4 (.aa (tm 31))]))))
 (.region [iV 11 (.aa (tm 5)),
 iV 12 (.bin .add (tm 11) (kI 1)),
 iV 5 (.aa (tm 12))])))
def gU : au :=
 ⟨33,
 (.seq
 (.region [iV 2 (.aa (kI 0)),
 iV 3 (.aa (.const (.bool false)))])
 (.seq
 (.region [iV 4 (.aa (kI 0))])
 (.seq
 (.seq
 (.region [iV 5 (.aa (kI 0))])
 (.block 0
 (.loop fQ)))
 (.seq
 (.region [iV 32 (.aa (tm 4)),
 iV 2 (.aa (tm 32)),
 iV 3 (.aa (.const (.bool true)))])
 .ret)))),
 [.tmp 2, .tmp 3]⟩
theorem aaB : bP Tryd.prog G Tryd.f44 = some gU := by kernel_rfl
/- balustrade/balustraderef05.Letter -/
abbrev HE : Nat := 45
def gW : au :=
 ⟨21,
 (.seq
 (.region [iV 2 (.aa (.const (.bool false)))])
 (.seq
 (.region [iV 3 (.aa (tm 0)),
 iV 4 (.bin .geq (tm 3) (.const (.int .u8 97))),
 iV 5 (.aa (tm 4)),
 iG 6 (.aa (tm 0)) 5 true,
 iG 7 (.bin .leq (tm 6) (.const (.int .u8 122))) 5 true,
 iV 8 (.pick (tm 5) (tm 7) (.const (.bool false))),
 iV 9 (.aa (tm 8)),
 iG 10 (.aa (tm 0)) 9 false,
 iG 11 (.bin .geq (tm 10) (.const (.int .u8 65))) 9 false,
 iG 12 (.aa (tm 11)) 9 false,
 iG 13 (.aa (tm 0)) 12 true,
 iG 14 (.bin .leq (tm 13) (.const (.int .u8 90))) 12 true,
 iG 15 (.pick (tm 12) (tm 14) (.const (.bool false))) 9 false,
 iV 16 (.pick (tm 9) (.const (.bool true)) (tm 15)),
 iV 17 (.aa (tm 16)),
 iG 18 (.aa (tm 0)) 17 false,
 iG 19 (.eq false (.aG 1) (tm 18) (.const (.int .u8 95))) 17 false,
 iV 20 (.pick (tm 17) (.const (.bool true)) (tm 19)),
 iV 2 (.aa (tm 20))])
 .ret)),
 [.tmp 2]⟩
theorem aaA : bP Tryd.prog G Tryd.f45 = some gW := by kernel_rfl
/- balustrade/balustraderef05.Word -/
abbrev Ls : Nat := 46
def ie : aE :=
 (.seq
 (.seq
 (.region [iV 6 (.aa (tm 4)),
 iV 7 (.aa (tm 3)),
 iV 8 (.len (tm 7)),
 iV 9 (.bin .lss (tm 6) (tm 8))])
 (.cond (.tmp 9)
 .skip
 (.exit 0)))
 (.seq
 (.block 1
 (.seq
 (.region [iV 12 (.aa (tm 3)),
 iV 13 (.aa (tm 4)),
 iV 14 (.cS 1 (tm 12) (tm 13)),
 iV 15 (.load none (tm 14)),
 iV 16 (.aa (tm 0)),
 iV 17 (.eq false (.aG 2) (tm 15) (tm 16))])
 (.cond (.tmp 17)
 (.seq
 (.region [iV 2 (.aa (.const (.bool true)))])
 .ret)
 .skip)))
 (.region [iV 10 (.aa (tm 4)),
 iV 11 (.bin .add (tm 10) (kI 1)),
 iV 4 (.aa (tm 11))])))
def jT : au :=
 ⟨18,
 (.seq
 (.region [iV 2 (.aa (.const (.bool false)))])
 (.seq
 (.region [iC 5 67 [],
 iV 3 (.aa (tm 5))])
 (.seq
 (.seq
 (.region [iV 4 (.aa (kI 0))])
 (.block 0
 (.loop ie)))
 (.seq
 (.region [iV 2 (.aa (.const (.bool false)))])
 .ret)))),
 [.tmp 2]⟩
theorem aaz : bP Tryd.prog G Tryd.f46 = some jT := by kernel_rfl
/- balustrade/balustraderef05.sign -/
abbrev Lr : Nat := 47
def gm : aE :=
 (.seq
 (.seq
 (.region [iV 8 (.aa (tm 5)),
 iV 9 (.aa (tm 3)),
 iV 10 (.len (tm 9)),
 iV 11 (.bin .lss (tm 8) (tm 10)),
 iV 12 (.aa (tm 11)),
 iG 13 (.aa (tm 0)) 12 true,
 iG 14 (.cD (tm 13)) 12 true,
 iG 15 (.bin .geq (tm 14) (kI 2)) 12 true,
 iV 16 (.pick (tm 12) (tm 15) (.const (.bool false)))])
 (.cond (.tmp 16)
 .skip
 (.exit 0)))
 (.seq
 (.block 1
 (.seq
 (.draw [iV 19 (.aa (tm 0)),
 iV 20 (.gd (tm 19) none (some (kI 2))),
 iV 21 (.aa (tm 3)),
 iV 22 (.aa (tm 5)),
 iV 23 (.cS 1 (tm 21) (tm 22)),
 iV 24 (.load none (tm 23)),
 iV 25 (.eq false (.aG 2) (tm 20) (tm 24))] [])
 (.cond (.tmp 25)
 (.seq
 (.region [iV 2 (.aa (kI 2))])
 .ret)
 .skip)))
 (.region [iV 17 (.aa (tm 5)),
 iV 18 (.bin .add (tm 17) (kI 1)),
 iV 5 (.aa (tm 18))])))
def ib : aE :=
 (.seq
 (.seq
 (.region [iV 26 (.aa (tm 6)),
 iV 27 (.aa (tm 4)),
 iV 28 (.cD (tm 27)),
 iV 29 (.bin .lss (tm 26) (tm 28))])
 (.cond (.tmp 29)
 .skip
 (.exit 2)))
 (.seq
 (.block 3
 (.seq
 (.draw [iV 32 (.aa (tm 0)),
 iV 33 (.eu (tm 32) (kI 0)),
 iV 34 (.aa (tm 4)),
 iV 35 (.aa (tm 6)),
 iV 36 (.eu (tm 34) (tm 35)),
 iV 37 (.eq false (.aG 1) (tm 33) (tm 36))] [])
 (.cond (.tmp 37)
 (.seq
 (.region [iV 2 (.aa (kI 1))])
 .ret)
 .skip)))
 (.region [iV 30 (.aa (tm 6)),
 iV 31 (.bin .add (tm 30) (kI 1)),
 iV 6 (.aa (tm 31))])))
def jS : au :=
 ⟨38,
 (.seq
 (.region [iV 2 (.aa (kI 0))])
 (.seq
 (.region [iV 7 (.bt 9 1 9 [(.str [])] [(0, (kS [124, 124])), (1, (kS [38, 38])), (2, (kS [61, 61])), (3, (kS [33, 61])), (4, (kS [60, 61])), (5, (kS [62, 61])), (6, (kS [43, 37])), (7, (kS [45, 37])), (8, (kS [42, 37]))]),
 iV 3 (.aa (tm 7))])
 (.seq
 (.region [iV 4 (.aa (kS [60, 62, 43, 45, 42, 47, 37, 33, 61, 40, 41, 123, 125, 91, 93, 44, 59]))])
 (.seq
 (.seq
 (.region [iV 5 (.aa (kI 0))])
 (.block 0
 (.loop gm)))
 (.seq
 (.seq
 (.region [iV 6 (.aa (kI 0))])
 (.block 2
 (.loop ib)))
 (.seq
 (.region [iV 2 (.aa (kI 0))])
 .ret)))))),
 [.tmp 2]⟩
theorem aay : bP Tryd.prog G Tryd.f47 = some jS := by kernel_rfl
/- balustrade/lex.class -/
abbrev iS : Nat := 48
def gY : au :=
 ⟨38,
 (.seq
 (.region [iV 2 (.aa (kI 0))])
 (.seq
 (.block 0
 (.seq
 (.seq
 (.region [iV 4 (.aa (tm 0)),
 iV 5 (.bin .geq (tm 4) (.const (.int .u8 97))),
 iV 6 (.aa (tm 5)),
 iG 7 (.aa (tm 0)) 6 true,
 iG 8 (.bin .leq (tm 7) (.const (.int .u8 122))) 6 true,
 iV 9 (.pick (tm 6) (tm 8) (.const (.bool false))),
 iV 3 (.aa (tm 9))])
 (.cond (.tmp 3)
 .skip
 (.seq
 (.region [iV 10 (.aa (tm 0)),
 iV 11 (.bin .geq (tm 10) (.const (.int .u8 65))),
 iV 12 (.aa (tm 11)),
 iG 13 (.aa (tm 0)) 12 true,
 iG 14 (.bin .leq (tm 13) (.const (.int .u8 90))) 12 true,
 iV 15 (.pick (tm 12) (tm 14) (.const (.bool false))),
 iV 3 (.aa (tm 15))])
 (.cond (.tmp 3)
 .skip
 (.region [iV 16 (.aa (tm 0)),
 iV 17 (.eq false (.aG 1) (tm 16) (.const (.int .u8 95))),
 iV 3 (.aa (tm 17))])))))
 (.cond (.tmp 3)
 (.seq
 (.region [iV 2 (.aa (kI 3))])
 .ret)
 (.seq
 (.region [iV 19 (.aa (tm 0)),
 iV 20 (.bin .geq (tm 19) (.const (.int .u8 48))),
 iV 21 (.aa (tm 20)),
 iG 22 (.aa (tm 0)) 21 true,
 iG 23 (.bin .leq (tm 22) (.const (.int .u8 57))) 21 true,
 iV 24 (.pick (tm 21) (tm 23) (.const (.bool false))),
 iV 18 (.aa (tm 24))])
 (.cond (.tmp 18)
 (.seq
 (.region [iV 2 (.aa (kI 4))])
 .ret)
 (.seq
 (.region [iV 26 (.aa (tm 0)),
 iV 27 (.eq false (.aG 1) (tm 26) (.const (.int .u8 35))),
 iV 25 (.aa (tm 27))])
 (.cond (.tmp 25)
 (.seq
 (.region [iV 2 (.aa (kI 2))])
 .ret)
 .skip)))))))
 (.seq
 (.seq
 (.region [iV 28 (.aa (tm 0))])
 (.block 1
 (.seq
 (.block 3
 (.block 2
 (.seq
 (.seq
 (.seq
 (.region [iV 30 (.eq false (.aG 1) (tm 28) (.const (.int .u8 32))),
 iV 29 (.aa (tm 30))])
 (.cond (.tmp 29)
 (.exit 2)
 .skip))
 (.seq
 (.seq
 (.region [iV 32 (.eq false (.aG 1) (tm 28) (.const (.int .u8 9))),
 iV 31 (.aa (tm 32))])
 (.cond (.tmp 31)
 .skip
 (.seq
 (.region [iV 33 (.eq false (.aG 1) (tm 28) (.const (.int .u8 10))),
 iV 31 (.aa (tm 33))])
 (.cond (.tmp 31)
 .skip
 (.region [iV 34 (.eq false (.aG 1) (tm 28) (.const (.int .u8 13))),
 iV 31 (.aa (tm 34))])))))
 (.cond (.tmp 31)
 (.exit 3)
 .skip)))
 (.exit 1))))
 (.seq
 (.seq
 (.region [iV 2 (.aa (kI 1))])
 .ret)
 (.exit 1)))))
 (.seq
 (.seq
 (.region [iV 35 (.aa (tm 0)),
 iC 36 68 [(kS [124, 38, 61, 33, 60, 62, 43, 45, 42, 47, 37, 40, 41, 123, 125, 91, 93, 44, 59]), (tm 35)],
 iV 37 (.bin .geq (tm 36) (kI 0))])
 (.cond (.tmp 37)
 (.seq
 (.region [iV 2 (.aa (kI 5))])
 .ret)
 .skip))
 (.seq
 (.region [iV 2 (.aa (kI 0))])
 .ret))))),
 [.tmp 2]⟩
theorem aax : bP Tryd.prog G Tryd.f48 = some gY := by kernel_rfl
/- balustrade/lex.run -/
abbrev oN : Nat := 49
def gX : aE :=
 (.seq
 (.seq
 (.region [iV 6 (.aa (tm 5)),
 iV 7 (.aa (tm 0)),
 iV 8 (.cD (tm 7)),
 iV 9 (.bin .lss (tm 6) (tm 8)),
 iV 10 (.aa (tm 9)),
 iG 11 (.aa (tm 1)) 10 true,
 iG 12 (.aa (tm 0)) 10 true,
 iG 13 (.aa (tm 5)) 10 true,
 iG 14 (.eu (tm 12) (tm 13)) 10 true,
 iH 15 48 [(tm 14)] 10 true,
 iH 16 69 [(tm 11), (tm 15)] 10 true,
 iV 17 (.pick (tm 10) (tm 16) (.const (.bool false)))])
 (.cond (.tmp 17)
 .skip
 (.exit 0)))
 (.block 1
 (.region [iV 18 (.aa (tm 5)),
 iV 19 (.bin .add (tm 18) (kI 1)),
 iV 5 (.aa (tm 19))])))
def ly : au :=
 ⟨21,
 (.seq
 (.region [iV 4 (.aa (kI 0))])
 (.seq
 (.region [iV 5 (.aa (kI 0))])
 (.seq
 (.block 0
 (.loop gX))
 (.seq
 (.region [iV 20 (.aa (tm 5)),
 iV 4 (.aa (tm 20))])
 .ret)))),
 [.tmp 4]⟩
theorem aaw : bP Tryd.prog G Tryd.f49 = some ly := by kernel_rfl
/- strings.Cut -/
abbrev FJ : Nat := 50
def gl : au :=
 ⟨13,
 (.seq
 (.region [iV 4 (.aa (kS [])),
 iV 5 (.aa (kS [])),
 iV 6 (.aa (.const (.bool false)))])
 (.seq
 (.region [iV 7 (.aa (tm 0)),
 iV 8 (.aa (tm 1)),
 iC 9 70 [(tm 7), (tm 8)],
 iV 10 (.extract (tm 9) 0),
 iV 11 (.extract (tm 9) 1),
 iV 12 (.extract (tm 9) 2),
 iV 4 (.aa (tm 10)),
 iV 5 (.aa (tm 11)),
 iV 6 (.aa (tm 12))])
 .ret)),
 [.tmp 4, .tmp 5, .tmp 6]⟩
theorem aav : bP Tryd.prog G Tryd.f50 = some gl := by kernel_rfl
/- (*balustrade/lex.scanner).word -/
abbrev kR : Nat := 51
def cH : au :=
 ⟨23,
 (.seq
 (.region [iV 4 (.aa (kI 0))])
 (.seq
 (.region [iV 6 (.aa (tm 1)),
 iV 7 (.bt 3 1 2 [(.int .i64 0)] [(0, (kI 3)), (1, (kI 4))]),
 iC 8 49 [(tm 6), (tm 7)],
 iV 5 (.aa (tm 8))])
 (.seq
 (.block 0
 (.seq
 (.region [iV 13 (.aa (tm 1)),
 iV 14 (.aa (tm 5)),
 iV 15 (.gd (tm 13) none (some (tm 14))),
 iC 16 71 [(tm 15)],
 iV 12 (.aa (tm 16))])
 (.cond (.tmp 12)
 (.region [iV 17 (.aa (tm 0)),
 iV 18 (.aa (tm 5)),
 iC 19 28 [(tm 17), (kI 3), (tm 18), (kI 0)]])
 (.seq
 (.region [iV 21 (.aa (tm 5)),
 iV 22 (.bin .gtr (tm 21) (kI 32)),
 iV 20 (.aa (tm 22))])
 (.cond (.tmp 20)
 (.seq
 (.region [iV 4 (.aa (kI 3))])
 .ret)
 (.region [iV 9 (.aa (tm 0)),
 iV 10 (.aa (tm 5)),
 iC 11 28 [(tm 9), (kI 1), (tm 10), (kI 0)]]))))))
 (.seq
 (.region [iV 4 (.aa (kI 0))])
 .ret)))),
 [.tmp 4]⟩
theorem aau : bP Tryd.prog G Tryd.f51 = some cH := by kernel_rfl
/- (*balustrade/lex.scanner).number -/
abbrev nt : Nat := 52
def cT : aE :=
 (.seq
 (.region [iV 14 (.bin .lss (tm 13) (tm 12))])
 (.seq
 (.cond (.tmp 14)
 .skip
 (.exit 0))
 (.seq
 (.block 1
 (.seq
 (.region [iV 15 (.aa (tm 13)),
 iV 7 (.aa (tm 15))])
 (.seq
 (.region [iV 16 (.aa (tm 1)),
 iV 17 (.aa (tm 7)),
 iV 18 (.eu (tm 16) (tm 17)),
 iV 19 (.bin .sub (tm 18) (.const (.int .u8 48))),
 iV 20 (.conv (.int .i64) (tm 19)),
 iV 8 (.aa (tm 20))])
 (.seq
 (.seq
 (.region [iV 21 (.aa (tm 5)),
 iV 22 (.aa (tm 8)),
 iV 23 (.bin .sub (kI 9223372036854775807) (tm 22)),
 iV 24 (.bin .quo (tm 23) (kI 10)),
 iV 25 (.bin .gtr (tm 21) (tm 24))])
 (.cond (.tmp 25)
 (.seq
 (.region [iV 4 (.aa (kI 7))])
 .ret)
 .skip))
 (.region [iV 26 (.aa (tm 5)),
 iV 27 (.bin .mul (kI 10) (tm 26)),
 iV 28 (.aa (tm 8)),
 iV 29 (.bin .add (tm 27) (tm 28)),
 iV 5 (.aa (tm 29))])))))
 (.region [iV 30 (.bin .add (tm 13) (kI 1)),
 iV 13 (.aa (tm 30))]))))
def db : au :=
 ⟨35,
 (.seq
 (.region [iV 4 (.aa (kI 0))])
 (.seq
 (.region [iV 9 (.aa (tm 1)),
 iV 10 (.bt 3 1 1 [(.int .i64 0)] [(0, (kI 4))]),
 iC 11 49 [(tm 9), (tm 10)],
 iV 5 (.aa (kI 0)),
 iV 6 (.aa (tm 11))])
 (.seq
 (.seq
 (.region [iV 12 (.aa (tm 6)),
 iV 13 (.aa (kI 0))])
 (.block 0
 (.loop cT)))
 (.seq
 (.region [iV 31 (.aa (tm 0)),
 iV 32 (.aa (tm 6)),
 iV 33 (.aa (tm 5)),
 iC 34 28 [(tm 31), (kI 2), (tm 32), (tm 33)]])
 (.seq
 (.region [iV 4 (.aa (kI 0))])
 .ret))))),
 [.tmp 4]⟩
theorem aat : bP Tryd.prog G Tryd.f52 = some db := by kernel_rfl
/- slices.IndexFunc[[]string,string] -/
abbrev kc : Nat := 53
def bQ : aE :=
 (.seq
 (.region [iV 9 (.bin .lss (tm 8) (tm 7))])
 (.seq
 (.cond (.tmp 9)
 .skip
 (.exit 0))
 (.seq
 (.block 1
 (.seq
 (.region [iV 10 (.aa (tm 8)),
 iV 5 (.aa (tm 10))])
 (.seq
 (.region [iV 11 (.aa (tm 1)),
 iV 12 (.aa (tm 0)),
 iV 13 (.aa (tm 5)),
 iV 14 (.cS 1 (tm 12) (tm 13)),
 iV 15 (.load none (tm 14)),
 ⟨(some 16), (.call (tm 11) [(tm 15)]), none⟩])
 (.cond (.tmp 16)
 (.seq
 (.region [iV 17 (.aa (tm 5)),
 iV 4 (.aa (tm 17))])
 .ret)
 .skip))))
 (.region [iV 18 (.bin .add (tm 8) (kI 1)),
 iV 8 (.aa (tm 18))]))))
def bT : au :=
 ⟨19,
 (.seq
 (.region [iV 4 (.aa (kI 0))])
 (.seq
 (.seq
 (.region [iV 6 (.aa (tm 0)),
 iV 7 (.len (tm 6)),
 iV 8 (.aa (kI 0))])
 (.block 0
 (.loop bQ)))
 (.seq
 (.region [iV 4 (.aa (kI (-1)))])
 .ret))),
 [.tmp 4]⟩
theorem aas : bP Tryd.prog G Tryd.f53 = some bT := by kernel_rfl
/- (*balustrade/lex.scanner).next$1 -/
abbrev fH : Nat := 54
def dc : au :=
 ⟨7,
 (.seq
 (.region [iV 3 (.aa (.const (.bool false)))])
 (.seq
 (.region [iV 4 (.load none (tm 1)),
 iV 5 (.aa (tm 0)),
 iC 6 55 [(tm 4), (tm 5)],
 iV 3 (.aa (tm 6))])
 .ret)),
 [.tmp 3]⟩
theorem aar : bP Tryd.prog G Tryd.f54 = some dc := by kernel_rfl
/- strings.HasPrefix -/
abbrev xg : Nat := 55
def dD : au :=
 ⟨8,
 (.seq
 (.region [iV 4 (.aa (.const (.bool false)))])
 (.seq
 (.region [iV 5 (.aa (tm 0)),
 iV 6 (.aa (tm 1)),
 iC 7 72 [(tm 5), (tm 6)],
 iV 4 (.aa (tm 7))])
 .ret)),
 [.tmp 4]⟩
theorem aaq : bP Tryd.prog G Tryd.f55 = some dD := by kernel_rfl
/- (*balustrade/expr.Reader).Skip -/
abbrev aU : Nat := 56
def dq : au :=
 ⟨18,
 (.seq
 (.region [iV 4 (.aa (.const (.bool false)))])
 (.seq
 (.region [iV 6 (.aa (tm 0)),
 iV 7 (.aa (tm 1)),
 iC 8 16 [(tm 6), (tm 7)],
 iV 5 (.aa (tm 8))])
 (.seq
 (.seq
 (.region [iV 9 (.aa (tm 5))])
 (.cond (.tmp 9)
 (.region [iV 10 (.aa (tm 0)),
 iV 11 (.cy (tm 10)),
 iV 12 (.aj 1 (tm 11)),
 iV 13 (.load none (tm 12)),
 iV 14 (.bin .add (tm 13) (kI 1)),
 iV 15 (.cy (tm 10)),
 iV 16 (.aj 1 (tm 15)),
 iN (.store 1 (tm 16) (tm 14))])
 .skip))
 (.seq
 (.region [iV 17 (.aa (tm 5)),
 iV 4 (.aa (tm 17))])
 .ret)))),
 [.tmp 4]⟩
theorem aap : bP Tryd.prog G Tryd.f56 = some dq := by kernel_rfl
/- (*balustrade/expr.Reader).take -/
abbrev xJ : Nat := 57
def ed : au :=
 ⟨14,
 (.seq
 (.region [iV 2 (.alloc 36 [(.int .i64 0), (.str []), (.int .i64 0), (.int .i64 0)])])
 (.seq
 (.region [iV 4 (.aa (tm 0)),
 iC 5 15 [(tm 4)],
 iV 3 (.alloc 36 [(.int .i64 0), (.str []), (.int .i64 0), (.int .i64 0)]),
 iN (.store 4 (tm 3) (tm 5))])
 (.seq
 (.region [iV 6 (.aa (tm 0)),
 iV 7 (.cy (tm 6)),
 iV 8 (.aj 1 (tm 7)),
 iV 9 (.load none (tm 8)),
 iV 10 (.bin .add (tm 9) (kI 1)),
 iV 11 (.cy (tm 6)),
 iV 12 (.aj 1 (tm 11)),
 iN (.store 1 (tm 12) (tm 10))])
 (.seq
 (.region [iV 13 (.load (some 4) (tm 3)),
 iN (.store 4 (tm 2) (tm 13))])
 .ret)))),
 [.cell 2 (some 4)]⟩
theorem aao : bP Tryd.prog G Tryd.f57 = some ed := by kernel_rfl
end
section
/- (*balustrade/expr.Reader).Open -/
abbrev eJ : Nat := 58
def dr : au :=
 ⟨22,
 (.seq
 (.region [iV 4 (.aa (.const (.bool false)))])
 (.seq
 (.seq
 (.region [iV 5 (.aa (tm 0)),
 iV 6 (.cy (tm 5)),
 iV 7 (.aj 2 (tm 6)),
 iV 8 (.load none (tm 7)),
 iV 9 (.bin .add (tm 8) (kI 1)),
 iV 10 (.cy (tm 5)),
 iV 11 (.aj 2 (tm 10)),
 iN (.store 1 (tm 11) (tm 9))])
 (.seq
 (.region [iV 12 (.aa (tm 0)),
 iV 13 (.cy (tm 12)),
 iV 14 (.aj 2 (tm 13)),
 iV 15 (.load none (tm 14)),
 iV 16 (.bin .gtr (tm 15) (kI 200))])
 (.cond (.tmp 16)
 (.region [iV 17 (.aa (tm 0)),
 iV 18 (.aa (tm 1)),
 iC 19 17 [(tm 17), (kI 4), (tm 18)]])
 .skip)))
 (.seq
 (.region [iV 20 (.aa (tm 0)),
 iC 21 29 [(tm 20)],
 iV 4 (.aa (tm 21))])
 .ret))),
 [.tmp 4]⟩
theorem aan : bP Tryd.prog G Tryd.f58 = some dr := by kernel_rfl
/- (balustrade/parse.reader).statement -/
abbrev kA : Nat := 59
def b6 : aE :=
 (.seq
 (.region [iV 13 (.bin .lss (tm 12) (tm 11))])
 (.seq
 (.cond (.tmp 13)
 .skip
 (.exit 0))
 (.seq
 (.block 1
 (.seq
 (.region [iV 14 (.cS 2 (tm 10) (tm 12)),
 iV 15 (.load (some 2) (tm 14)),
 iV 5 (.alloc 93 [(.str []), .aO]),
 iN (.store 2 (tm 5) (tm 15))])
 (.seq
 (.region [iV 16 (.aj 0 (tm 1)),
 iV 17 (.load none (tm 16)),
 iV 18 (.aj 0 (tm 5)),
 iV 19 (.load none (tm 18)),
 iC 20 56 [(tm 17), (tm 19)]])
 (.cond (.tmp 20)
 (.seq
 (.region [iV 21 (.aj 1 (tm 5)),
 iV 22 (.load none (tm 21)),
 iV 23 (.load (some 1) (tm 1)),
 iV 24 (.aa (tm 3)),
 ⟨(some 25), (.call (tm 22) [(tm 23), (tm 24)]), none⟩,
 iV 2 (.aa (tm 25))])
 .ret)
 .skip))))
 (.region [iV 26 (.bin .add (tm 12) (kI 1)),
 iV 12 (.aa (tm 26))]))))
def cb : au :=
 ⟨29,
 (.seq
 (.region [iV 1 (.box 45 (tm 0)),
 iV 2 (.aa (kI 0))])
 (.seq
 (.region [iV 6 (.aj 0 (tm 1)),
 iV 7 (.load none (tm 6)),
 iC 8 15 [(tm 7)],
 iV 9 (.AX none 3 (tm 8)),
 iV 3 (.aa (tm 9))])
 (.seq
 (.seq
 (.region [iC 10 73 [],
 iV 11 (.len (tm 10)),
 iV 12 (.aa (kI 0))])
 (.block 0
 (.loop b6)))
 (.seq
 (.region [iV 27 (.load (some 1) (tm 1)),
 iC 28 74 [(tm 27)],
 iV 2 (.aa (tm 28))])
 .ret)))),
 [.tmp 2]⟩
theorem aam : bP Tryd.prog G Tryd.f59 = some cb := by kernel_rfl
/- (*balustrade/expr.Reader).Close -/
abbrev dB : Nat := 60
def dK : au :=
 ⟨9,
 (.region [iV 2 (.aa (tm 0)),
 iV 3 (.cy (tm 2)),
 iV 4 (.aj 2 (tm 3)),
 iV 5 (.load none (tm 4)),
 iV 6 (.bin .sub (tm 5) (kI 1)),
 iV 7 (.cy (tm 2)),
 iV 8 (.aj 2 (tm 7)),
 iN (.store 1 (tm 8) (tm 6))]),
 []⟩
theorem aal : bP Tryd.prog G Tryd.f60 = some dK := by kernel_rfl
/- balustrade/balustraderef06.named -/
abbrev Ue : Nat := 61
def lp : au :=
 ⟨6,
 (.seq
 (.region [iV 2 (.aa (.const (.bool false)))])
 (.seq
 (.region [iV 3 (.bt 3 1 8 [(.int .i64 0)] [(0, (kI 4)), (1, (kI 11)), (2, (kI 12)), (3, (kI 13)), (4, (kI 14)), (5, (kI 17)), (6, (kI 24)), (7, (kI 25))]),
 iV 4 (.aa (tm 0)),
 iC 5 10 [(tm 3), (tm 4)],
 iV 2 (.aa (tm 5))])
 .ret)),
 [.tmp 2]⟩
theorem aak : bP Tryd.prog G Tryd.f61 = some lp := by kernel_rfl
/- balustrade/balustraderef05.Name -/
abbrev Vh : Nat := 62
def Ga : aE :=
 (.seq
 (.seq
 (.region [iV 4 (.aa (tm 3)),
 iV 5 (.aa (tm 0)),
 iV 6 (.cD (tm 5)),
 iV 7 (.bin .lss (tm 4) (tm 6))])
 (.cond (.tmp 7)
 .skip
 (.exit 0)))
 (.seq
 (.block 1
 (.seq
 (.region [iV 10 (.aa (tm 0)),
 iV 11 (.aa (tm 3)),
 iV 12 (.eu (tm 10) (tm 11)),
 iC 13 45 [(tm 12)],
 iV 14 (.un .not (tm 13)),
 iV 15 (.aa (tm 14)),
 iG 16 (.aa (tm 3)) 15 true,
 iG 17 (.eq false (.aG 1) (tm 16) (kI 0)) 15 true,
 iG 18 (.aa (tm 17)) 15 true,
 iG 19 (.aa (tm 0)) 18 false,
 iG 20 (.aa (tm 3)) 18 false,
 iG 21 (.eu (tm 19) (tm 20)) 18 false,
 iH 22 43 [(tm 21)] 18 false,
 iG 23 (.un .not (tm 22)) 18 false,
 iG 24 (.pick (tm 18) (.const (.bool true)) (tm 23)) 15 true,
 iV 25 (.pick (tm 15) (tm 24) (.const (.bool false)))])
 (.cond (.tmp 25)
 (.seq
 (.region [iV 2 (.aa (.const (.bool false)))])
 .ret)
 .skip)))
 (.region [iV 8 (.aa (tm 3)),
 iV 9 (.bin .add (tm 8) (kI 1)),
 iV 3 (.aa (tm 9))])))
def mN : au :=
 ⟨39,
 (.seq
 (.region [iV 2 (.aa (.const (.bool false)))])
 (.seq
 (.seq
 (.region [iV 3 (.aa (kI 0))])
 (.block 0
 (.loop Ga)))
 (.seq
 (.region [iV 26 (.aa (tm 0)),
 iV 27 (.cD (tm 26)),
 iV 28 (.bin .gtr (tm 27) (kI 0)),
 iV 29 (.aa (tm 28)),
 iG 30 (.aa (tm 0)) 29 true,
 iG 31 (.cD (tm 30)) 29 true,
 iG 32 (.bin .leq (tm 31) (kI 32)) 29 true,
 iV 33 (.pick (tm 29) (tm 32) (.const (.bool false))),
 iV 34 (.aa (tm 33)),
 iG 35 (.aa (tm 0)) 34 true,
 iH 36 46 [(tm 35)] 34 true,
 iG 37 (.un .not (tm 36)) 34 true,
 iV 38 (.pick (tm 34) (tm 37) (.const (.bool false))),
 iV 2 (.aa (tm 38))])
 .ret))),
 [.tmp 2]⟩
theorem aaj : bP Tryd.prog G Tryd.f62 = some mN := by kernel_rfl
/- balustrade/balustraderef06.exprs -/
abbrev Uf : Nat := 63
def Fo : aE :=
 (.seq
 (.seq
 (.region [iV 12 (.aa (tm 7)),
 iV 13 (.aa (tm 2)),
 iV 14 (.bin .lss (tm 12) (tm 13))])
 (.cond (.tmp 14)
 .skip
 (.exit 0)))
 (.seq
 (.block 1
 (.seq
 (.region [iV 17 (.aa (tm 0)),
 iV 18 (.aa (tm 1)),
 iV 19 (.aa (tm 7)),
 iV 20 (.cS 1 (tm 18) (tm 19)),
 iV 21 (.load none (tm 20)),
 iV 22 (.cS 5 (tm 17) (tm 21)),
 iV 23 (.aj 0 (tm 22)),
 iV 24 (.load none (tm 23)),
 iC 25 75 [(tm 24)],
 iV 26 (.un .not (tm 25))])
 (.cond (.tmp 26)
 (.seq
 (.region [iV 6 (.aa (.const (.bool false)))])
 .ret)
 .skip)))
 (.region [iV 15 (.aa (tm 7)),
 iV 16 (.bin .add (tm 15) (kI 1)),
 iV 7 (.aa (tm 16))])))
def lq : au :=
 ⟨27,
 (.seq
 (.region [iV 6 (.aa (.const (.bool false)))])
 (.seq
 (.seq
 (.region [iV 8 (.aa (tm 1)),
 iV 9 (.len (tm 8)),
 iV 10 (.aa (tm 2)),
 iV 11 (.bin .lss (tm 9) (tm 10))])
 (.cond (.tmp 11)
 (.seq
 (.region [iV 6 (.aa (.const (.bool false)))])
 .ret)
 .skip))
 (.seq
 (.seq
 (.region [iV 7 (.aa (kI 0))])
 (.block 0
 (.loop Fo)))
 (.seq
 (.region [iV 6 (.aa (.const (.bool true)))])
 .ret)))),
 [.tmp 6]⟩
theorem aai : bP Tryd.prog G Tryd.f63 = some lq := by kernel_rfl
/- balustrade/balustraderef06.all -/
abbrev WD : Nat := 64
def IG : aE :=
 (.seq
 (.seq
 (.region [iV 10 (.aa (tm 9)),
 iV 11 (.aa (tm 1)),
 iV 12 (.len (tm 11)),
 iV 13 (.bin .lss (tm 10) (tm 12))])
 (.cond (.tmp 13)
 .skip
 (.exit 0)))
 (.seq
 (.block 1
 (.seq
 (.region [iV 16 (.aa (tm 0)),
 iV 17 (.aa (tm 1)),
 iV 18 (.aa (tm 9)),
 iV 19 (.cS 1 (tm 17) (tm 18)),
 iV 20 (.load none (tm 19)),
 iV 21 (.cS 5 (tm 16) (tm 20)),
 iV 22 (.aj 0 (tm 21)),
 iV 23 (.load none (tm 22)),
 iV 24 (.aa (tm 2)),
 iV 25 (.eq true (.aG 1) (tm 23) (tm 24))])
 (.cond (.tmp 25)
 (.seq
 (.region [iV 8 (.aa (.const (.bool false)))])
 .ret)
 .skip)))
 (.region [iV 14 (.aa (tm 9)),
 iV 15 (.bin .add (tm 14) (kI 1)),
 iV 9 (.aa (tm 15))])))
def oT : au :=
 ⟨30,
 (.seq
 (.region [iV 8 (.aa (.const (.bool false)))])
 (.seq
 (.seq
 (.region [iV 9 (.aa (kI 0))])
 (.block 0
 (.loop IG)))
 (.seq
 (.region [iV 26 (.aa (tm 1)),
 iV 27 (.len (tm 26)),
 iV 28 (.aa (tm 3)),
 iV 29 (.bin .leq (tm 27) (tm 28)),
 iV 8 (.aa (tm 29))])
 .ret))),
 [.tmp 8]⟩
theorem aah : bP Tryd.prog G Tryd.f64 = some oT := by kernel_rfl
/- balustrade/balustraderef06.Stmt -/
abbrev Ve : Nat := 65
def mK : au :=
 ⟨9,
 (.seq
 (.region [iV 2 (.aa (.const (.bool false)))])
 (.seq
 (.region [iV 3 (.aa (tm 0)),
 iV 4 (.bin .geq (tm 3) (kI 12)),
 iV 5 (.aa (tm 4)),
 iG 6 (.aa (tm 0)) 5 true,
 iG 7 (.bin .leq (tm 6) (kI 22)) 5 true,
 iV 8 (.pick (tm 5) (tm 7) (.const (.bool false))),
 iV 2 (.aa (tm 8))])
 .ret)),
 [.tmp 2]⟩
theorem aag : bP Tryd.prog G Tryd.f65 = some mK := by kernel_rfl
/- balustrade/balustraderef06.Signs -/
abbrev Ug : Nat := 66
def lr : au :=
 ⟨2,
 (.seq
 (.region [iV 0 (.aa (.const .ae))])
 (.seq
 (.region [iV 1 (.bt 9 1 16 [(.str [])] [(0, (kS [124, 124])), (1, (kS [38, 38])), (2, (kS [61, 61])), (3, (kS [33, 61])), (4, (kS [60])), (5, (kS [60, 61])), (6, (kS [62])), (7, (kS [62, 61])), (8, (kS [43])), (9, (kS [45])), (10, (kS [43, 37])), (11, (kS [45, 37])), (12, (kS [42])), (13, (kS [47])), (14, (kS [37])), (15, (kS [42, 37]))]),
 iV 0 (.aa (tm 1))])
 .ret)),
 [.tmp 0]⟩
theorem aaf : bP Tryd.prog G Tryd.f66 = some lr := by kernel_rfl
/- balustrade/balustraderef05.Words -/
abbrev Jr : Nat := 67
def lx : au :=
 ⟨2,
 (.seq
 (.region [iV 0 (.aa (.const .ae))])
 (.seq
 (.region [iV 1 (.bt 9 1 18 [(.str [])] [(0, (kS [102, 110])), (1, (kS [118, 97, 114])), (2, (kS [105, 102])), (3, (kS [101, 108, 115, 101])), (4, (kS [119, 104, 105, 108, 101])), (5, (kS [102, 111, 114])), (6, (kS [98, 114, 101, 97, 107])), (7, (kS [99, 111, 110, 116, 105, 110, 117, 101])), (8, (kS [114, 101, 116, 117, 114, 110])), (9, (kS [112, 114, 105, 110, 116])), (10, (kS [108, 101, 110])), (11, (kS [110, 101, 119])), (12, (kS [116, 114, 117, 101])), (13, (kS [102, 97, 108, 115, 101])), (14, (kS [110, 105, 108])), (15, (kS [105, 110, 116])), (16, (kS [98, 111, 111, 108])), (17, (kS [97, 114, 114]))]),
 iV 0 (.aa (tm 1))])
 .ret)),
 [.tmp 0]⟩
theorem aae : bP Tryd.prog G Tryd.f67 = some lx := by kernel_rfl
/- strings.IndexByte -/
abbrev nX : Nat := 68
def dC : au :=
 ⟨8,
 (.seq
 (.region [iV 4 (.aa (kI 0))])
 (.seq
 (.region [iV 5 (.aa (tm 0)),
 iV 6 (.aa (tm 1)),
 iC 7 76 [(tm 5), (tm 6)],
 iV 4 (.aa (tm 7))])
 .ret)),
 [.tmp 4]⟩
theorem aad : bP Tryd.prog G Tryd.f68 = some dC := by kernel_rfl
/- slices.Contains[[]int,int] -/
abbrev ur : Nat := 69
def cM : au :=
 ⟨9,
 (.seq
 (.region [iV 4 (.aa (.const (.bool false)))])
 (.seq
 (.region [iV 5 (.aa (tm 0)),
 iV 6 (.aa (tm 1)),
 iC 7 77 [(tm 5), (tm 6)],
 iV 8 (.bin .geq (tm 7) (kI 0)),
 iV 4 (.aa (tm 8))])
 .ret)),
 [.tmp 4]⟩
theorem aac : bP Tryd.prog G Tryd.f69 = some cM := by kernel_rfl
/- internal/stringslite.Cut -/
abbrev pe : Nat := 70
def bp : au :=
 ⟨23,
 (.seq
 (.region [iV 4 (.aa (kS [])),
 iV 5 (.aa (kS [])),
 iV 6 (.aa (.const (.bool false)))])
 (.seq
 (.seq
 (.region [iV 8 (.aa (tm 0)),
 iV 9 (.aa (tm 1)),
 iC 10 78 [(tm 8), (tm 9)],
 iV 7 (.aa (tm 10))])
 (.seq
 (.region [iV 11 (.aa (tm 7)),
 iV 12 (.bin .geq (tm 11) (kI 0))])
 (.cond (.tmp 12)
 (.seq
 (.draw [iV 13 (.aa (tm 0)),
 iV 14 (.aa (tm 7)),
 iV 15 (.gd (tm 13) none (some (tm 14))),
 iV 16 (.aa (tm 0)),
 iV 17 (.aa (tm 7)),
 iV 18 (.aa (tm 1)),
 iV 19 (.cD (tm 18)),
 iV 20 (.bin .add (tm 17) (tm 19)),
 iV 21 (.gd (tm 16) (some (tm 20)) none),
 iV 4 (.aa (tm 15)),
 iV 5 (.aa (tm 21)),
 iV 6 (.aa (.const (.bool true)))] [])
 .ret)
 .skip)))
 (.seq
 (.region [iV 22 (.aa (tm 0)),
 iV 4 (.aa (tm 22)),
 iV 5 (.aa (kS [])),
 iV 6 (.aa (.const (.bool false)))])
 .ret))),
 [.tmp 4, .tmp 5, .tmp 6]⟩
theorem aab : bP Tryd.prog G Tryd.f70 = some bp := by kernel_rfl
/- balustrade/lex.Word -/
abbrev xI : Nat := 71
def pF : au :=
 ⟨6,
 (.seq
 (.region [iV 2 (.aa (.const (.bool false)))])
 (.seq
 (.region [iV 3 (.load none (.const (.ptr 1 0))),
 iV 4 (.aa (tm 0)),
 iC 5 79 [(tm 3), (tm 4)],
 iV 2 (.aa (tm 5))])
 .ret)),
 [.tmp 2]⟩
theorem aaa : bP Tryd.prog G Tryd.f71 = some pF := by kernel_rfl
/- internal/stringslite.HasPrefix -/
abbrev lK : Nat := 72
def aQ : au :=
 ⟨18,
 (.seq
 (.region [iV 4 (.aa (.const (.bool false)))])
 (.seq
 (.region [iV 5 (.aa (tm 0)),
 iV 6 (.cD (tm 5)),
 iV 7 (.aa (tm 1)),
 iV 8 (.cD (tm 7)),
 iV 9 (.bin .geq (tm 6) (tm 8)),
 iV 10 (.aa (tm 9)),
 iG 11 (.aa (tm 0)) 10 true,
 iG 12 (.aa (tm 1)) 10 true,
 iG 13 (.cD (tm 12)) 10 true,
 iG 14 (.gd (tm 11) none (some (tm 13))) 10 true,
 iG 15 (.aa (tm 1)) 10 true,
 iG 16 (.eq false (.aG 2) (tm 14) (tm 15)) 10 true,
 iV 17 (.pick (tm 10) (tm 16) (.const (.bool false))),
 iV 4 (.aa (tm 17))])
 .ret)),
 [.tmp 4]⟩
theorem Z9 : bP Tryd.prog G Tryd.f72 = some aQ := by kernel_rfl
/- balustrade/parse.sorts -/
abbrev FK : Nat := 73
def gp : au :=
 ⟨10,
 (.seq
 (.region [iV 0 (.aa (.const .ae))])
 (.seq
 (.region [iV 1 (.build [(.str []), .aO] [(0, 1, (kS [118, 97, 114])), (1, 1, (.const (.func 80 [] [])))]),
 iV 2 (.build [(.str []), .aO] [(0, 1, (kS [105, 102])), (1, 1, (.const (.func 81 [] [])))]),
 iV 3 (.build [(.str []), .aO] [(0, 1, (kS [119, 104, 105, 108, 101])), (1, 1, (.const (.func 82 [] [])))]),
 iV 4 (.build [(.str []), .aO] [(0, 1, (kS [102, 111, 114])), (1, 1, (.const (.func 83 [] [])))]),
 iV 5 (.build [(.str []), .aO] [(0, 1, (kS [98, 114, 101, 97, 107])), (1, 1, (.const (.func 84 [] [])))]),
 iV 6 (.build [(.str []), .aO] [(0, 1, (kS [99, 111, 110, 116, 105, 110, 117, 101])), (1, 1, (.const (.func 86 [] [])))]),
 iV 7 (.build [(.str []), .aO] [(0, 1, (kS [114, 101, 116, 117, 114, 110])), (1, 1, (.const (.func 87 [] [])))]),
 iV 8 (.build [(.str []), .aO] [(0, 1, (kS [112, 114, 105, 110, 116])), (1, 1, (.const (.func 89 [] [])))]),
 iV 9 (.bt 93 2 8 [(.str []), .aO] [(0, (tm 1)), (1, (tm 2)), (2, (tm 3)), (3, (tm 4)), (4, (tm 5)), (5, (tm 6)), (6, (tm 7)), (7, (tm 8))]),
 iV 0 (.aa (tm 9))])
 .ret)),
 [.tmp 0]⟩
theorem Z8 : bP Tryd.prog G Tryd.f73 = some gp := by kernel_rfl
/- (balustrade/parse.reader).named -/
abbrev nq : Nat := 74
def c8 : au :=
 ⟨66,
 (.seq
 (.region [iV 1 (.box 45 (tm 0)),
 iV 2 (.aa (kI 0))])
 (.seq
 (.region [iV 7 (.aj 0 (tm 1)),
 iV 8 (.load none (tm 7)),
 iC 9 15 [(tm 8)],
 iV 3 (.alloc 36 [(.int .i64 0), (.str []), (.int .i64 0), (.int .i64 0)]),
 iN (.store 4 (tm 3) (tm 9))])
 (.seq
 (.region [iV 10 (.aj 0 (tm 1)),
 iV 11 (.load none (tm 10)),
 iC 12 31 [(tm 11)],
 iV 4 (.aa (tm 12))])
 (.seq
 (.block 0
 (.seq
 (.region [iV 14 (.aj 0 (tm 1)),
 iV 15 (.load none (tm 14)),
 iC 16 16 [(tm 15), (kS [40])],
 iV 13 (.aa (tm 16))])
 (.cond (.tmp 13)
 (.seq
 (.draw [iV 17 (.load (some 1) (tm 1)),
 iV 18 (.aj 0 (tm 1)),
 iV 19 (.load none (tm 18)),
 iV 20 (.aa (tm 4)),
 iV 21 (.aj 3 (tm 3)),
 iV 22 (.load none (tm 21)),
 iC 23 90 [(tm 19), (tm 20), (tm 22)],
 iV 24 (.bt 3 1 1 [(.int .i64 0)] [(0, (tm 23))]),
 iV 25 (.aj 3 (tm 3)),
 iV 26 (.load none (tm 25)),
 iV 27 (.build [(.int .i64 0), .ae, (.int .i64 0), (.str []), (.int .i64 0)] [(0, 1, (kI 22)), (1, 1, (tm 24)), (4, 1, (tm 26))]),
 iC 28 85 [(tm 17), (tm 27)],
 iV 2 (.aa (tm 28))] [(0, 6), (9, 6)])
 .ret)
 (.seq
 (.region [iV 30 (.aj 0 (tm 1)),
 iV 31 (.load none (tm 30)),
 iC 32 16 [(tm 31), (kS [91])],
 iV 29 (.aa (tm 32))])
 (.cond (.tmp 29)
 (.seq
 (.region [iV 33 (.aj 0 (tm 1)),
 iV 34 (.load none (tm 33)),
 iC 35 15 [(tm 34)],
 iV 36 (.AX none 3 (tm 35)),
 iV 5 (.aa (tm 36))])
 (.seq
 (.region [iV 37 (.aj 0 (tm 1)),
 iV 38 (.load none (tm 37)),
 iC 39 91 [(tm 38), (kS [91]), (kS [93])],
 iV 6 (.aa (tm 39))])
 (.seq
 (.region [iV 40 (.aj 0 (tm 1)),
 iV 41 (.load none (tm 40)),
 iC 42 30 [(tm 41), (kS [61])]])
 (.seq
 (.draw [iV 43 (.load (some 1) (tm 1)),
 iV 44 (.aa (tm 4)),
 iV 45 (.aa (tm 6)),
 iV 46 (.aj 0 (tm 1)),
 iV 47 (.load none (tm 46)),
 iC 48 88 [(tm 47)],
 iV 49 (.bt 3 1 2 [(.int .i64 0)] [(0, (tm 45)), (1, (tm 48))]),
 iV 50 (.aa (tm 5)),
 iV 51 (.build [(.int .i64 0), .ae, (.int .i64 0), (.str []), (.int .i64 0)] [(0, 1, (kI 14)), (3, 1, (tm 44)), (1, 1, (tm 49)), (4, 1, (tm 50))]),
 iC 52 85 [(tm 43), (tm 51)],
 iV 2 (.aa (tm 52))] [(0, 5)])
 .ret))))
 .skip)))))
 (.seq
 (.region [iV 53 (.aj 0 (tm 1)),
 iV 54 (.load none (tm 53)),
 iC 55 30 [(tm 54), (kS [61])]])
 (.seq
 (.draw [iV 56 (.load (some 1) (tm 1)),
 iV 57 (.aa (tm 4)),
 iV 58 (.aj 0 (tm 1)),
 iV 59 (.load none (tm 58)),
 iC 60 88 [(tm 59)],
 iV 61 (.bt 3 1 1 [(.int .i64 0)] [(0, (tm 60))]),
 iV 62 (.aj 3 (tm 3)),
 iV 63 (.load none (tm 62)),
 iV 64 (.build [(.int .i64 0), .ae, (.int .i64 0), (.str []), (.int .i64 0)] [(0, 1, (kI 13)), (3, 1, (tm 57)), (1, 1, (tm 61)), (4, 1, (tm 63))]),
 iC 65 85 [(tm 56), (tm 64)],
 iV 2 (.aa (tm 65))] [(0, 4), (7, 4)])
 .ret)))))),
 [.tmp 2]⟩
theorem Z7 : bP Tryd.prog G Tryd.f74 = some c8 := by kernel_rfl
/- balustrade/balustraderef06.Expr -/
abbrev Vg : Nat := 75
def mM : au :=
 ⟨9,
 (.seq
 (.region [iV 2 (.aa (.const (.bool false)))])
 (.seq
 (.region [iV 3 (.aa (tm 0)),
 iV 4 (.bin .geq (tm 3) (kI 1)),
 iV 5 (.aa (tm 4)),
 iG 6 (.aa (tm 0)) 5 true,
 iG 7 (.bin .leq (tm 6) (kI 11)) 5 true,
 iV 8 (.pick (tm 5) (tm 7) (.const (.bool false))),
 iV 2 (.aa (tm 8))])
 .ret)),
 [.tmp 2]⟩
theorem Z6 : bP Tryd.prog G Tryd.f75 = some mM := by kernel_rfl
/- internal/stringslite.IndexByte -/
abbrev eZ : Nat := 76
def aH : au :=
 ⟨8,
 (.seq
 (.region [iV 4 (.aa (kI 0))])
 (.seq
 (.region [iV 5 (.aa (tm 0)),
 iV 6 (.aa (tm 1)),
 iC 7 92 [(tm 5), (tm 6)],
 iV 4 (.aa (tm 7))])
 .ret)),
 [.tmp 4]⟩
theorem Z5 : bP Tryd.prog G Tryd.f76 = some aH := by kernel_rfl
/- slices.Index[[]int,int] -/
abbrev xH : Nat := 77
def dN : aE :=
 (.seq
 (.region [iV 9 (.bin .lss (tm 8) (tm 7))])
 (.seq
 (.cond (.tmp 9)
 .skip
 (.exit 0))
 (.seq
 (.block 1
 (.seq
 (.region [iV 10 (.aa (tm 8)),
 iV 5 (.aa (tm 10))])
 (.seq
 (.region [iV 11 (.aa (tm 1)),
 iV 12 (.aa (tm 0)),
 iV 13 (.aa (tm 5)),
 iV 14 (.cS 1 (tm 12) (tm 13)),
 iV 15 (.load none (tm 14)),
 iV 16 (.eq false (.aG 1) (tm 11) (tm 15))])
 (.cond (.tmp 16)
 (.seq
 (.region [iV 17 (.aa (tm 5)),
 iV 4 (.aa (tm 17))])
 .ret)
 .skip))))
 (.region [iV 18 (.bin .add (tm 8) (kI 1)),
 iV 8 (.aa (tm 18))]))))
def dW : au :=
 ⟨19,
 (.seq
 (.region [iV 4 (.aa (kI 0))])
 (.seq
 (.seq
 (.region [iV 6 (.aa (tm 0)),
 iV 7 (.len (tm 6)),
 iV 8 (.aa (kI 0))])
 (.block 0
 (.loop dN)))
 (.seq
 (.region [iV 4 (.aa (kI (-1)))])
 .ret))),
 [.tmp 4]⟩
theorem Z4 : bP Tryd.prog G Tryd.f77 = some dW := by kernel_rfl
/- internal/stringslite.Index -/
abbrev dy : Nat := 78
def ik : aE :=
 (.seq
 (.seq
 (.region [iV 57 (.aa (tm 8)),
 iV 58 (.aa (tm 9)),
 iV 59 (.bin .lss (tm 57) (tm 58))])
 (.cond (.tmp 59)
 .skip
 (.exit 1)))
 (.block 2
 (.seq
 (.seq
 (.region [iV 60 (.aa (tm 0)),
 iV 61 (.aa (tm 8)),
 iV 62 (.eu (tm 60) (tm 61)),
 iV 63 (.aa (tm 6)),
 iV 64 (.eq true (.aG 1) (tm 62) (tm 63))])
 (.cond (.tmp 64)
 (.seq
 (.region [iV 65 (.aa (tm 0)),
 iV 66 (.aa (tm 8)),
 iV 67 (.bin .add (tm 66) (kI 1)),
 iV 68 (.aa (tm 9)),
 iV 69 (.gd (tm 65) (some (tm 67)) (some (tm 68))),
 iV 70 (.aa (tm 6)),
 iC 71 76 [(tm 69), (tm 70)],
 iV 11 (.aa (tm 71))])
 (.seq
 (.seq
 (.region [iV 72 (.aa (tm 11)),
 iV 73 (.bin .lss (tm 72) (kI 0))])
 (.cond (.tmp 73)
 (.seq
 (.region [iV 4 (.aa (kI (-1)))])
 .ret)
 .skip))
 (.region [iV 74 (.aa (tm 8)),
 iV 75 (.aa (tm 11)),
 iV 76 (.bin .add (tm 75) (kI 1)),
 iV 77 (.bin .add (tm 74) (tm 76)),
 iV 8 (.aa (tm 77))])))
 .skip))
 (.seq
 (.seq
 (.region [iV 78 (.aa (tm 0)),
 iV 79 (.aa (tm 8)),
 iV 80 (.bin .add (tm 79) (kI 1)),
 iV 81 (.eu (tm 78) (tm 80)),
 iV 82 (.aa (tm 7)),
 iV 83 (.eq false (.aG 1) (tm 81) (tm 82)),
 iV 84 (.aa (tm 83)),
 iG 85 (.aa (tm 0)) 84 true,
 iG 86 (.aa (tm 8)) 84 true,
 iG 87 (.aa (tm 8)) 84 true,
 iG 88 (.aa (tm 5)) 84 true,
 iG 89 (.bin .add (tm 87) (tm 88)) 84 true,
 iG 90 (.gd (tm 85) (some (tm 86)) (some (tm 89))) 84 true,
 iG 91 (.aa (tm 1)) 84 true,
 iG 92 (.eq false (.aG 2) (tm 90) (tm 91)) 84 true,
 iV 93 (.pick (tm 84) (tm 92) (.const (.bool false)))])
 (.cond (.tmp 93)
 (.seq
 (.region [iV 94 (.aa (tm 8)),
 iV 4 (.aa (tm 94))])
 .ret)
 .skip))
 (.seq
 (.region [iV 95 (.aa (tm 8)),
 iV 96 (.bin .add (tm 95) (kI 1)),
 iV 8 (.aa (tm 96))])
 (.seq
 (.region [iV 97 (.aa (tm 10)),
 iV 98 (.bin .add (tm 97) (kI 1)),
 iV 10 (.aa (tm 98))])
 (.seq
 (.region [iV 99 (.aa (tm 5)),
 iV 100 (.load none (.const (.ptr 2 0))),
 iV 101 (.bin .leq (tm 99) (tm 100)),
 iV 102 (.aa (tm 101)),
 iG 103 (.aa (tm 10)) 102 true,
 iG 104 (.aa (tm 8)) 102 true,
 iH 105 94 [(tm 104)] 102 true,
 iG 106 (.bin .gtr (tm 103) (tm 105)) 102 true,
 iV 107 (.pick (tm 102) (tm 106) (.const (.bool false)))])
 (.cond (.tmp 107)
 (.seq
 (.region [iV 108 (.aa (tm 0)),
 iV 109 (.aa (tm 8)),
 iV 110 (.gd (tm 108) (some (tm 109)) none),
 iV 111 (.aa (tm 1)),
 iC 112 93 [(tm 110), (tm 111)],
 iV 12 (.aa (tm 112))])
 (.seq
 (.seq
 (.region [iV 113 (.aa (tm 12)),
 iV 114 (.bin .geq (tm 113) (kI 0))])
 (.cond (.tmp 114)
 (.seq
 (.region [iV 115 (.aa (tm 12)),
 iV 116 (.aa (tm 8)),
 iV 117 (.bin .add (tm 115) (tm 116)),
 iV 4 (.aa (tm 117))])
 .ret)
 .skip))
 (.seq
 (.region [iV 4 (.aa (kI (-1)))])
 .ret)))
 (.seq
 (.region [iV 118 (.aa (tm 5)),
 iV 119 (.load none (.const (.ptr 2 0))),
 iV 120 (.bin .gtr (tm 118) (tm 119)),
 iV 121 (.aa (tm 120)),
 iG 122 (.aa (tm 10)) 121 true,
 iG 123 (.aa (tm 8)) 121 true,
 iG 124 (.bin .shr (tm 123) (.const (.int .u64 4))) 121 true,
 iG 125 (.bin .add (kI 4) (tm 124)) 121 true,
 iG 126 (.bin .geq (tm 122) (tm 125)) 121 true,
 iV 127 (.pick (tm 121) (tm 126) (.const (.bool false))),
 iV 128 (.aa (tm 127)),
 iG 129 (.aa (tm 8)) 128 true,
 iG 130 (.aa (tm 9)) 128 true,
 iG 131 (.bin .lss (tm 129) (tm 130)) 128 true,
 iV 132 (.pick (tm 128) (tm 131) (.const (.bool false)))])
 (.cond (.tmp 132)
 (.seq
 (.region [iV 133 (.aa (tm 0)),
 iV 134 (.aa (tm 8)),
 iV 135 (.gd (tm 133) (some (tm 134)) none),
 iV 136 (.aa (tm 1)),
 iC 137 95 [(tm 135), (tm 136)],
 iV 13 (.aa (tm 137))])
 (.seq
 (.seq
 (.region [iV 138 (.aa (tm 13)),
 iV 139 (.bin .lss (tm 138) (kI 0))])
 (.cond (.tmp 139)
 (.seq
 (.region [iV 4 (.aa (kI (-1)))])
 .ret)
 .skip))
 (.seq
 (.region [iV 140 (.aa (tm 8)),
 iV 141 (.aa (tm 13)),
 iV 142 (.bin .add (tm 140) (tm 141)),
 iV 4 (.aa (tm 142))])
 .ret)))
 .skip))))))))))
def cz : au :=
 ⟨143,
 (.seq
 (.region [iV 4 (.aa (kI 0))])
 (.seq
 (.region [iV 14 (.aa (tm 1)),
 iV 15 (.cD (tm 14)),
 iV 5 (.aa (tm 15))])
 (.seq
 (.block 0
 (.seq
 (.region [iV 17 (.aa (tm 5)),
 iV 18 (.eq false (.aG 1) (tm 17) (kI 0)),
 iV 19 (.aa (tm 18)),
 iG 20 (.aa (tm 1)) 19 false,
 iG 21 (.aa (tm 0)) 19 false,
 iG 22 (.eq false (.aG 2) (tm 20) (tm 21)) 19 false,
 iV 23 (.pick (tm 19) (.const (.bool true)) (tm 22)),
 iV 16 (.aa (tm 23))])
 (.cond (.tmp 16)
 (.seq
 (.region [iV 4 (.aa (kI 0))])
 .ret)
 (.seq
 (.region [iV 25 (.aa (tm 5)),
 iV 26 (.eq false (.aG 1) (tm 25) (kI 1)),
 iV 24 (.aa (tm 26))])
 (.cond (.tmp 24)
 (.seq
 (.region [iV 27 (.aa (tm 0)),
 iV 28 (.aa (tm 1)),
 iV 29 (.eu (tm 28) (kI 0)),
 iC 30 76 [(tm 27), (tm 29)],
 iV 4 (.aa (tm 30))])
 .ret)
 (.seq
 (.region [iV 32 (.aa (tm 5)),
 iV 33 (.aa (tm 0)),
 iV 34 (.cD (tm 33)),
 iV 35 (.bin .geq (tm 32) (tm 34)),
 iV 31 (.aa (tm 35))])
 (.cond (.tmp 31)
 (.seq
 (.region [iV 4 (.aa (kI (-1)))])
 .ret)
 (.seq
 (.region [iV 37 (.aa (tm 5)),
 iV 38 (.load none (.const (.ptr 2 0))),
 iV 39 (.bin .leq (tm 37) (tm 38)),
 iV 40 (.aa (tm 39)),
 iG 41 (.aa (tm 0)) 40 true,
 iG 42 (.cD (tm 41)) 40 true,
 iG 43 (.bin .leq (tm 42) (kI 64)) 40 true,
 iV 44 (.pick (tm 40) (tm 43) (.const (.bool false))),
 iV 36 (.aa (tm 44))])
 (.cond (.tmp 36)
 (.seq
 (.region [iV 45 (.aa (tm 0)),
 iV 46 (.aa (tm 1)),
 iC 47 93 [(tm 45), (tm 46)],
 iV 4 (.aa (tm 47))])
 .ret)
 .skip)))))))))
 (.seq
 (.region [iV 48 (.aa (tm 1)),
 iV 49 (.eu (tm 48) (kI 0)),
 iV 6 (.aa (tm 49))])
 (.seq
 (.region [iV 50 (.aa (tm 1)),
 iV 51 (.eu (tm 50) (kI 1)),
 iV 7 (.aa (tm 51))])
 (.seq
 (.region [iV 8 (.aa (kI 0))])
 (.seq
 (.region [iV 52 (.aa (tm 0)),
 iV 53 (.cD (tm 52)),
 iV 54 (.aa (tm 5)),
 iV 55 (.bin .sub (tm 53) (tm 54)),
 iV 56 (.bin .add (tm 55) (kI 1)),
 iV 9 (.aa (tm 56))])
 (.seq
 (.region [iV 10 (.aa (kI 0))])
 (.seq
 (.block 1
 (.loop ik))
 (.seq
 (.region [iV 4 (.aa (kI (-1)))])
 .ret)))))))))),
 [.tmp 4]⟩
theorem Z3 : bP Tryd.prog G Tryd.f78 = some cz := by kernel_rfl
/- slices.Contains[[]string,string] -/
abbrev qW : Nat := 79
def ca : au :=
 ⟨9,
 (.seq
 (.region [iV 4 (.aa (.const (.bool false)))])
 (.seq
 (.region [iV 5 (.aa (tm 0)),
 iV 6 (.aa (tm 1)),
 iC 7 96 [(tm 5), (tm 6)],
 iV 8 (.bin .geq (tm 7) (kI 0)),
 iV 4 (.aa (tm 8))])
 .ret)),
 [.tmp 4]⟩
theorem Z2 : bP Tryd.prog G Tryd.f79 = some ca := by kernel_rfl
/- (balustrade/parse.reader).let -/
abbrev kQ : Nat := 80
def dX : au :=
 ⟨26,
 (.seq
 (.region [iV 2 (.box 45 (tm 0)),
 iV 4 (.aa (kI 0))])
 (.seq
 (.region [iV 7 (.aj 0 (tm 2)),
 iV 8 (.load none (tm 7)),
 iC 9 15 [(tm 8)],
 iV 10 (.AX none 3 (tm 9)),
 iV 5 (.aa (tm 10))])
 (.seq
 (.region [iV 11 (.aj 0 (tm 2)),
 iV 12 (.load none (tm 11)),
 iC 13 31 [(tm 12)],
 iV 6 (.aa (tm 13))])
 (.seq
 (.region [iV 14 (.aj 0 (tm 2)),
 iV 15 (.load none (tm 14)),
 iC 16 30 [(tm 15), (kS [61])]])
 (.seq
 (.draw [iV 17 (.load (some 1) (tm 2)),
 iV 18 (.aa (tm 6)),
 iV 19 (.aj 0 (tm 2)),
 iV 20 (.load none (tm 19)),
 iC 21 88 [(tm 20)],
 iV 22 (.bt 3 1 1 [(.int .i64 0)] [(0, (tm 21))]),
 iV 23 (.aa (tm 5)),
 iV 24 (.build [(.int .i64 0), .ae, (.int .i64 0), (.str []), (.int .i64 0)] [(0, 1, (kI 12)), (3, 1, (tm 18)), (1, 1, (tm 22)), (4, 1, (tm 23))]),
 iC 25 85 [(tm 17), (tm 24)],
 iV 4 (.aa (tm 25))] [(0, 4)])
 .ret))))),
 [.tmp 4]⟩
theorem Z1 : bP Tryd.prog G Tryd.f80 = some dX := by kernel_rfl
/- (balustrade/parse.reader).when -/
abbrev kj : Nat := 81
def dE : au :=
 ⟨26,
 (.seq
 (.region [iV 2 (.box 45 (tm 0)),
 iV 4 (.aa (kI 0))])
 (.seq
 (.draw [iV 6 (.aj 0 (tm 2)),
 iV 7 (.load none (tm 6)),
 iC 8 88 [(tm 7)],
 iV 9 (.load (some 1) (tm 2)),
 iC 10 34 [(tm 9)],
 iV 11 (.bt 3 1 2 [(.int .i64 0)] [(0, (tm 8)), (1, (tm 10))]),
 iV 5 (.aa (tm 11))] [(3, 2)])
 (.seq
 (.seq
 (.region [iV 12 (.aj 0 (tm 2)),
 iV 13 (.load none (tm 12)),
 iC 14 56 [(tm 13), (kS [101, 108, 115, 101])]])
 (.cond (.tmp 14)
 (.region [iV 15 (.aa (tm 5)),
 iV 16 (.load (some 1) (tm 2)),
 iC 17 34 [(tm 16)],
 iV 18 (.bt 3 1 1 [(.int .i64 0)] [(0, (tm 17))]),
 iV 19 (.append 3 1 8 (tm 15) (tm 18)),
 iV 5 (.aa (tm 19))])
 .skip))
 (.seq
 (.region [iV 20 (.aj 0 (tm 2)),
 iV 21 (.load none (tm 20)),
 iV 22 (.aa (tm 5)),
 iV 23 (.aa (tm 1)),
 iV 24 (.build [(.int .i64 0), .ae, (.int .i64 0), (.str []), (.int .i64 0)] [(0, 1, (kI 15)), (1, 1, (tm 22)), (4, 1, (tm 23))]),
 iC 25 19 [(tm 21), (tm 24)],
 iV 4 (.aa (tm 25))])
 .ret)))),
 [.tmp 4]⟩
theorem Z0 : bP Tryd.prog G Tryd.f81 = some dE := by kernel_rfl
/- (balustrade/parse.reader).while -/
abbrev jL : Nat := 82
def c7 : au :=
 ⟨18,
 (.seq
 (.region [iV 2 (.box 45 (tm 0)),
 iV 4 (.aa (kI 0))])
 (.seq
 (.draw [iV 6 (.aj 0 (tm 2)),
 iV 7 (.load none (tm 6)),
 iC 8 88 [(tm 7)],
 iV 9 (.load (some 1) (tm 2)),
 iC 10 34 [(tm 9)],
 iV 11 (.bt 3 1 2 [(.int .i64 0)] [(0, (tm 8)), (1, (tm 10))]),
 iV 5 (.aa (tm 11))] [(3, 2)])
 (.seq
 (.region [iV 12 (.aj 0 (tm 2)),
 iV 13 (.load none (tm 12)),
 iV 14 (.aa (tm 5)),
 iV 15 (.aa (tm 1)),
 iV 16 (.build [(.int .i64 0), .ae, (.int .i64 0), (.str []), (.int .i64 0)] [(0, 1, (kI 16)), (1, 1, (tm 14)), (4, 1, (tm 15))]),
 iC 17 19 [(tm 13), (tm 16)],
 iV 4 (.aa (tm 17))])
 .ret))),
 [.tmp 4]⟩
theorem ZZ : bP Tryd.prog G Tryd.f82 = some c7 := by kernel_rfl
/- (balustrade/parse.reader).count -/
abbrev jM : Nat := 83
def c9 : au :=
 ⟨39,
 (.seq
 (.region [iV 2 (.box 45 (tm 0)),
 iV 4 (.aa (kI 0))])
 (.seq
 (.region [iV 9 (.aj 0 (tm 2)),
 iV 10 (.load none (tm 9)),
 iC 11 15 [(tm 10)],
 iV 12 (.AX none 3 (tm 11)),
 iV 5 (.aa (tm 12))])
 (.seq
 (.region [iV 13 (.aj 0 (tm 2)),
 iV 14 (.load none (tm 13)),
 iC 15 31 [(tm 14)],
 iV 6 (.aa (tm 15))])
 (.seq
 (.region [iV 16 (.aj 0 (tm 2)),
 iV 17 (.load none (tm 16)),
 iC 18 30 [(tm 17), (kS [61])]])
 (.seq
 (.region [iV 19 (.aj 0 (tm 2)),
 iV 20 (.load none (tm 19)),
 iC 21 88 [(tm 20)],
 iV 7 (.aa (tm 21))])
 (.seq
 (.region [iV 22 (.aj 0 (tm 2)),
 iV 23 (.load none (tm 22)),
 iC 24 30 [(tm 23), (kS [44])]])
 (.seq
 (.draw [iV 25 (.aa (tm 7)),
 iV 26 (.aj 0 (tm 2)),
 iV 27 (.load none (tm 26)),
 iC 28 88 [(tm 27)],
 iV 29 (.load (some 1) (tm 2)),
 iC 30 34 [(tm 29)],
 iV 31 (.bt 3 1 3 [(.int .i64 0)] [(0, (tm 25)), (1, (tm 28)), (2, (tm 30))]),
 iV 8 (.aa (tm 31))] [(4, 3)])
 (.seq
 (.region [iV 32 (.aj 0 (tm 2)),
 iV 33 (.load none (tm 32)),
 iV 34 (.aa (tm 6)),
 iV 35 (.aa (tm 8)),
 iV 36 (.aa (tm 5)),
 iV 37 (.build [(.int .i64 0), .ae, (.int .i64 0), (.str []), (.int .i64 0)] [(0, 1, (kI 17)), (3, 1, (tm 34)), (1, 1, (tm 35)), (4, 1, (tm 36))]),
 iC 38 19 [(tm 33), (tm 37)],
 iV 4 (.aa (tm 38))])
 .ret)))))))),
 [.tmp 4]⟩
theorem ZY : bP Tryd.prog G Tryd.f83 = some c9 := by kernel_rfl
/- balustrade/parse.sorts$1 -/
abbrev nQ : Nat := 84
def fm : au :=
 ⟨9,
 (.seq
 (.region [iV 2 (.box 45 (tm 0)),
 iV 4 (.aa (kI 0))])
 (.seq
 (.region [iV 5 (.load (some 1) (tm 2)),
 iV 6 (.aa (tm 1)),
 iV 7 (.build [(.int .i64 0), .ae, (.int .i64 0), (.str []), (.int .i64 0)] [(0, 1, (kI 18)), (4, 1, (tm 6))]),
 iC 8 85 [(tm 5), (tm 7)],
 iV 4 (.aa (tm 8))])
 .ret)),
 [.tmp 4]⟩
theorem ZX : bP Tryd.prog G Tryd.f84 = some fm := by kernel_rfl
/- (balustrade/parse.reader).end -/
abbrev di : Nat := 85
def dY : au :=
 ⟨12,
 (.seq
 (.region [iV 2 (.box 45 (tm 0)),
 iV 3 (.box 39 (tm 1)),
 iV 4 (.aa (kI 0))])
 (.seq
 (.region [iV 5 (.aj 0 (tm 2)),
 iV 6 (.load none (tm 5)),
 iC 7 30 [(tm 6), (kS [59])]])
 (.seq
 (.region [iV 8 (.aj 0 (tm 2)),
 iV 9 (.load none (tm 8)),
 iV 10 (.load (some 5) (tm 3)),
 iC 11 19 [(tm 9), (tm 10)],
 iV 4 (.aa (tm 11))])
 .ret))),
 [.tmp 4]⟩
theorem ZW : bP Tryd.prog G Tryd.f85 = some dY := by kernel_rfl
/- balustrade/parse.sorts$2 -/
abbrev nP : Nat := 86
def fi : au :=
 ⟨9,
 (.seq
 (.region [iV 2 (.box 45 (tm 0)),
 iV 4 (.aa (kI 0))])
 (.seq
 (.region [iV 5 (.load (some 1) (tm 2)),
 iV 6 (.aa (tm 1)),
 iV 7 (.build [(.int .i64 0), .ae, (.int .i64 0), (.str []), (.int .i64 0)] [(0, 1, (kI 19)), (4, 1, (tm 6))]),
 iC 8 85 [(tm 5), (tm 7)],
 iV 4 (.aa (tm 8))])
 .ret)),
 [.tmp 4]⟩
theorem ZV : bP Tryd.prog G Tryd.f86 = some fi := by kernel_rfl
/- balustrade/parse.sorts$3 -/
abbrev nO : Nat := 87
def fh : au :=
 ⟨13,
 (.seq
 (.region [iV 2 (.box 45 (tm 0)),
 iV 4 (.aa (kI 0))])
 (.seq
 (.draw [iV 5 (.load (some 1) (tm 2)),
 iV 6 (.aj 0 (tm 2)),
 iV 7 (.load none (tm 6)),
 iC 8 88 [(tm 7)],
 iV 9 (.bt 3 1 1 [(.int .i64 0)] [(0, (tm 8))]),
 iV 10 (.aa (tm 1)),
 iV 11 (.build [(.int .i64 0), .ae, (.int .i64 0), (.str []), (.int .i64 0)] [(0, 1, (kI 20)), (1, 1, (tm 9)), (4, 1, (tm 10))]),
 iC 12 85 [(tm 5), (tm 11)],
 iV 4 (.aa (tm 12))] [(0, 3)])
 .ret)),
 [.tmp 4]⟩
theorem ZU : bP Tryd.prog G Tryd.f87 = some fh := by kernel_rfl
/- (*balustrade/expr.Reader).Expr -/
abbrev aV : Nat := 88
def ef : au :=
 ⟨10,
 (.seq
 (.region [iV 2 (.aa (kI 0))])
 (.seq
 (.region [iV 4 (.aa (tm 0)),
 iC 5 97 [(tm 4), (kI 1)],
 iV 3 (.aa (tm 5))])
 (.seq
 (.seq
 (.region [iV 6 (.aa (tm 0)),
 iC 7 29 [(tm 6)],
 iV 8 (.un .not (tm 7))])
 (.cond (.tmp 8)
 (.seq
 (.region [iV 2 (.aa (kI (-1)))])
 .ret)
 .skip))
 (.seq
 (.region [iV 9 (.aa (tm 3)),
 iV 2 (.aa (tm 9))])
 .ret)))),
 [.tmp 2]⟩
theorem ZT : bP Tryd.prog G Tryd.f88 = some ef := by kernel_rfl
/- balustrade/parse.sorts$4 -/
abbrev nN : Nat := 89
def fg : au :=
 ⟨13,
 (.seq
 (.region [iV 2 (.box 45 (tm 0)),
 iV 4 (.aa (kI 0))])
 (.seq
 (.draw [iV 5 (.load (some 1) (tm 2)),
 iV 6 (.aj 0 (tm 2)),
 iV 7 (.load none (tm 6)),
 iC 8 88 [(tm 7)],
 iV 9 (.bt 3 1 1 [(.int .i64 0)] [(0, (tm 8))]),
 iV 10 (.aa (tm 1)),
 iV 11 (.build [(.int .i64 0), .ae, (.int .i64 0), (.str []), (.int .i64 0)] [(0, 1, (kI 21)), (1, 1, (tm 9)), (4, 1, (tm 10))]),
 iC 12 85 [(tm 5), (tm 11)],
 iV 4 (.aa (tm 12))] [(0, 3)])
 .ret)),
 [.tmp 4]⟩
theorem ZS : bP Tryd.prog G Tryd.f89 = some fg := by kernel_rfl
end
section
/- (*balustrade/expr.Reader).Call -/
abbrev jb : Nat := 90
def eg : au :=
 ⟨14,
 (.seq
 (.region [iV 6 (.aa (kI 0))])
 (.seq
 (.region [iV 7 (.aa (tm 0)),
 iV 8 (.aa (tm 1)),
 iV 9 (.aa (tm 0)),
 iC 10 98 [(tm 9)],
 iV 11 (.aa (tm 2)),
 iV 12 (.build [(.int .i64 0), .ae, (.int .i64 0), (.str []), (.int .i64 0)] [(0, 1, (kI 11)), (3, 1, (tm 8)), (1, 1, (tm 10)), (4, 1, (tm 11))]),
 iC 13 19 [(tm 7), (tm 12)],
 iV 6 (.aa (tm 13))])
 .ret)),
 [.tmp 6]⟩
theorem ZR : bP Tryd.prog G Tryd.f90 = some eg := by kernel_rfl
/- (*balustrade/expr.Reader).Inner -/
abbrev cx : Nat := 91
def dJ : au :=
 ⟨33,
 (.seq
 (.region [iV 6 (.aa (kI 0))])
 (.seq
 (.region [iV 9 (.aa (tm 0)),
 iC 10 15 [(tm 9)],
 iV 11 (.AX none 3 (tm 10)),
 iV 7 (.aa (tm 11))])
 (.seq
 (.seq
 (.region [iV 12 (.aa (tm 0)),
 iV 13 (.aa (tm 1)),
 iC 14 30 [(tm 12), (tm 13)],
 iV 15 (.un .not (tm 14)),
 iV 16 (.aa (tm 15)),
 iG 17 (.aa (tm 0)) 16 false,
 iG 18 (.aa (tm 7)) 16 false,
 iH 19 58 [(tm 17), (tm 18)] 16 false,
 iG 20 (.un .not (tm 19)) 16 false,
 iV 21 (.pick (tm 16) (.const (.bool true)) (tm 20))])
 (.cond (.tmp 21)
 (.seq
 (.region [iV 6 (.aa (kI (-1)))])
 .ret)
 .skip))
 (.seq
 (.region [iV 22 (.aa (tm 0)),
 iC 23 88 [(tm 22)],
 iV 8 (.aa (tm 23))])
 (.seq
 (.region [iV 24 (.aa (tm 0)),
 iV 25 (.aa (tm 2)),
 iC 26 30 [(tm 24), (tm 25)]])
 (.seq
 (.region [iV 27 (.aa (tm 0)),
 iC 28 60 [(tm 27)]])
 (.seq
 (.seq
 (.region [iV 29 (.aa (tm 0)),
 iC 30 29 [(tm 29)],
 iV 31 (.un .not (tm 30))])
 (.cond (.tmp 31)
 (.seq
 (.region [iV 6 (.aa (kI (-1)))])
 .ret)
 .skip))
 (.seq
 (.region [iV 32 (.aa (tm 8)),
 iV 6 (.aa (tm 32))])
 .ret)))))))),
 [.tmp 6]⟩
theorem ZQ : bP Tryd.prog G Tryd.f91 = some dJ := by kernel_rfl
/- internal/bytealg.Cutover -/
abbrev Ek : Nat := 94
def cU : au :=
 ⟨6,
 (.seq
 (.region [iV 2 (.aa (kI 0))])
 (.seq
 (.region [iV 3 (.aa (tm 0)),
 iV 4 (.bin .add (tm 3) (kI 16)),
 iV 5 (.bin .quo (tm 4) (kI 8)),
 iV 2 (.aa (tm 5))])
 .ret)),
 [.tmp 2]⟩
theorem ZP : bP Tryd.prog G Tryd.f94 = some cU := by kernel_rfl
/- internal/bytealg.IndexRabinKarp[string] -/
abbrev uu : Nat := 95
def iP : aE :=
 (.seq
 (.seq
 (.region [iV 18 (.aa (tm 9)),
 iV 19 (.aa (tm 7)),
 iV 20 (.bin .lss (tm 18) (tm 19))])
 (.cond (.tmp 20)
 .skip
 (.exit 0)))
 (.seq
 (.block 1
 (.region [iV 23 (.aa (tm 8)),
 iV 24 (.bin .mul (tm 23) (.const (.int .u32 16777619))),
 iV 25 (.aa (tm 0)),
 iV 26 (.aa (tm 9)),
 iV 27 (.eu (tm 25) (tm 26)),
 iV 28 (.conv (.int .u32) (tm 27)),
 iV 29 (.bin .add (tm 24) (tm 28)),
 iV 8 (.aa (tm 29))]))
 (.region [iV 21 (.aa (tm 9)),
 iV 22 (.bin .add (tm 21) (kI 1)),
 iV 9 (.aa (tm 22))])))
def iO : aE :=
 (.seq
 (.seq
 (.region [iV 41 (.aa (tm 10)),
 iV 42 (.aa (tm 0)),
 iV 43 (.cD (tm 42)),
 iV 44 (.bin .lss (tm 41) (tm 43))])
 (.cond (.tmp 44)
 .skip
 (.exit 2)))
 (.block 3
 (.seq
 (.region [iV 45 (.aa (tm 8)),
 iV 46 (.bin .mul (tm 45) (.const (.int .u32 16777619))),
 iV 8 (.aa (tm 46))])
 (.seq
 (.region [iV 47 (.aa (tm 8)),
 iV 48 (.aa (tm 0)),
 iV 49 (.aa (tm 10)),
 iV 50 (.eu (tm 48) (tm 49)),
 iV 51 (.conv (.int .u32) (tm 50)),
 iV 52 (.bin .add (tm 47) (tm 51)),
 iV 8 (.aa (tm 52))])
 (.seq
 (.region [iV 53 (.aa (tm 8)),
 iV 54 (.aa (tm 6)),
 iV 55 (.aa (tm 0)),
 iV 56 (.aa (tm 10)),
 iV 57 (.aa (tm 7)),
 iV 58 (.bin .sub (tm 56) (tm 57)),
 iV 59 (.eu (tm 55) (tm 58)),
 iV 60 (.conv (.int .u32) (tm 59)),
 iV 61 (.bin .mul (tm 54) (tm 60)),
 iV 62 (.bin .sub (tm 53) (tm 61)),
 iV 8 (.aa (tm 62))])
 (.seq
 (.region [iV 63 (.aa (tm 10)),
 iV 64 (.bin .add (tm 63) (kI 1)),
 iV 10 (.aa (tm 64))])
 (.seq
 (.region [iV 65 (.aa (tm 8)),
 iV 66 (.aa (tm 5)),
 iV 67 (.eq false (.aG 1) (tm 65) (tm 66)),
 iV 68 (.aa (tm 67)),
 iG 69 (.aa (tm 0)) 68 true,
 iG 70 (.aa (tm 10)) 68 true,
 iG 71 (.aa (tm 7)) 68 true,
 iG 72 (.bin .sub (tm 70) (tm 71)) 68 true,
 iG 73 (.aa (tm 10)) 68 true,
 iG 74 (.gd (tm 69) (some (tm 72)) (some (tm 73))) 68 true,
 iG 75 (.aa (tm 1)) 68 true,
 iG 76 (.eq false (.aG 2) (tm 74) (tm 75)) 68 true,
 iV 77 (.pick (tm 68) (tm 76) (.const (.bool false)))])
 (.cond (.tmp 77)
 (.seq
 (.region [iV 78 (.aa (tm 10)),
 iV 79 (.aa (tm 7)),
 iV 80 (.bin .sub (tm 78) (tm 79)),
 iV 4 (.aa (tm 80))])
 .ret)
 .skip))))))))
def bg : au :=
 ⟨81,
 (.seq
 (.region [iV 4 (.aa (kI 0))])
 (.seq
 (.region [iV 12 (.aa (tm 1)),
 iC 13 99 [(tm 12)],
 iV 11 (.aa (tm 13)),
 iV 14 (.extract (tm 11) 0),
 iV 15 (.extract (tm 11) 1),
 iV 5 (.aa (tm 14)),
 iV 6 (.aa (tm 15))])
 (.seq
 (.region [iV 16 (.aa (tm 1)),
 iV 17 (.cD (tm 16)),
 iV 7 (.aa (tm 17))])
 (.seq
 (.region [iV 8 (.aa (.const (.int .u32 0)))])
 (.seq
 (.seq
 (.region [iV 9 (.aa (kI 0))])
 (.block 0
 (.loop iP)))
 (.seq
 (.seq
 (.region [iV 30 (.aa (tm 8)),
 iV 31 (.aa (tm 5)),
 iV 32 (.eq false (.aG 1) (tm 30) (tm 31)),
 iV 33 (.aa (tm 32)),
 iG 34 (.aa (tm 0)) 33 true,
 iG 35 (.aa (tm 7)) 33 true,
 iG 36 (.gd (tm 34) none (some (tm 35))) 33 true,
 iG 37 (.aa (tm 1)) 33 true,
 iG 38 (.eq false (.aG 2) (tm 36) (tm 37)) 33 true,
 iV 39 (.pick (tm 33) (tm 38) (.const (.bool false)))])
 (.cond (.tmp 39)
 (.seq
 (.region [iV 4 (.aa (kI 0))])
 .ret)
 .skip))
 (.seq
 (.seq
 (.region [iV 40 (.aa (tm 7)),
 iV 10 (.aa (tm 40))])
 (.block 2
 (.loop iO)))
 (.seq
 (.region [iV 4 (.aa (kI (-1)))])
 .ret)))))))),
 [.tmp 4]⟩
theorem ZO : bP Tryd.prog G Tryd.f95 = some bg := by kernel_rfl
/- slices.Index[[]string,string] -/
abbrev uq : Nat := 96
def cG : aE :=
 (.seq
 (.region [iV 9 (.bin .lss (tm 8) (tm 7))])
 (.seq
 (.cond (.tmp 9)
 .skip
 (.exit 0))
 (.seq
 (.block 1
 (.seq
 (.region [iV 10 (.aa (tm 8)),
 iV 5 (.aa (tm 10))])
 (.seq
 (.region [iV 11 (.aa (tm 1)),
 iV 12 (.aa (tm 0)),
 iV 13 (.aa (tm 5)),
 iV 14 (.cS 1 (tm 12) (tm 13)),
 iV 15 (.load none (tm 14)),
 iV 16 (.eq false (.aG 2) (tm 11) (tm 15))])
 (.cond (.tmp 16)
 (.seq
 (.region [iV 17 (.aa (tm 5)),
 iV 4 (.aa (tm 17))])
 .ret)
 .skip))))
 (.region [iV 18 (.bin .add (tm 8) (kI 1)),
 iV 8 (.aa (tm 18))]))))
def cL : au :=
 ⟨19,
 (.seq
 (.region [iV 4 (.aa (kI 0))])
 (.seq
 (.seq
 (.region [iV 6 (.aa (tm 0)),
 iV 7 (.len (tm 6)),
 iV 8 (.aa (kI 0))])
 (.block 0
 (.loop cG)))
 (.seq
 (.region [iV 4 (.aa (kI (-1)))])
 .ret))),
 [.tmp 4]⟩
theorem ZN : bP Tryd.prog G Tryd.f96 = some cL := by kernel_rfl
/- (*balustrade/expr.Reader).climb -/
abbrev e6 : Nat := 97
def dk : aE :=
 (.seq
 (.seq
 (.region [iV 12 (.aa (tm 0)),
 iC 13 29 [(tm 12)]])
 (.cond (.tmp 13)
 .skip
 (.exit 0)))
 (.block 1
 (.seq
 (.region [iV 14 (.aa (tm 0)),
 iC 15 15 [(tm 14)],
 iV 7 (.alloc 36 [(.int .i64 0), (.str []), (.int .i64 0), (.int .i64 0)]),
 iN (.store 4 (tm 7) (tm 15))])
 (.seq
 (.region [iV 16 (.aj 1 (tm 7)),
 iV 17 (.load none (tm 16)),
 iC 18 101 [(tm 17)],
 iV 8 (.alloc 105 [(.int .i64 0), (.int .i64 0)]),
 iN (.store 2 (tm 8) (tm 18))])
 (.seq
 (.seq
 (.region [iV 19 (.aj 0 (tm 7)),
 iV 20 (.load none (tm 19)),
 iV 21 (.eq true (.aG 1) (tm 20) (kI 4)),
 iV 22 (.aa (tm 21)),
 iG 23 (.aj 1 (tm 8)) 22 false,
 iG 24 (.load none (tm 23)) 22 false,
 iG 25 (.eq false (.aG 1) (tm 24) (kI 0)) 22 false,
 iV 26 (.pick (tm 22) (.const (.bool true)) (tm 25)),
 iV 27 (.aa (tm 26)),
 iG 28 (.aj 0 (tm 8)) 27 false,
 iG 29 (.load none (tm 28)) 27 false,
 iG 30 (.aa (tm 1)) 27 false,
 iG 31 (.bin .lss (tm 29) (tm 30)) 27 false,
 iV 32 (.pick (tm 27) (.const (.bool true)) (tm 31)),
 iV 33 (.aa (tm 32)),
 iG 34 (.aj 0 (tm 8)) 33 false,
 iG 35 (.load none (tm 34)) 33 false,
 iG 36 (.aa (tm 6)) 33 false,
 iG 37 (.bin .gtr (tm 35) (tm 36)) 33 false,
 iV 38 (.pick (tm 33) (.const (.bool true)) (tm 37))])
 (.cond (.tmp 38)
 (.exit 0)
 .skip))
 (.seq
 (.region [iV 39 (.aa (tm 0)),
 iV 40 (.cy (tm 39)),
 iV 41 (.aj 1 (tm 40)),
 iV 42 (.load none (tm 41)),
 iV 43 (.bin .add (tm 42) (kI 1)),
 iV 44 (.cy (tm 39)),
 iV 45 (.aj 1 (tm 44)),
 iN (.store 1 (tm 45) (tm 43))])
 (.seq
 (.region [iV 46 (.aa (tm 0)),
 iV 47 (.aj 0 (tm 8)),
 iV 48 (.load none (tm 47)),
 iV 49 (.bin .add (tm 48) (kI 1)),
 iC 50 97 [(tm 46), (tm 49)],
 iV 9 (.aa (tm 50))])
 (.seq
 (.region [iV 51 (.aa (tm 0)),
 iV 52 (.aj 1 (tm 8)),
 iV 53 (.load none (tm 52)),
 iV 54 (.aa (tm 5)),
 iV 55 (.aa (tm 9)),
 iV 56 (.bt 3 1 2 [(.int .i64 0)] [(0, (tm 54)), (1, (tm 55))]),
 iV 57 (.aj 3 (tm 7)),
 iV 58 (.load none (tm 57)),
 iV 59 (.build [(.int .i64 0), .ae, (.int .i64 0), (.str []), (.int .i64 0)] [(0, 1, (kI 5)), (2, 1, (tm 53)), (1, 1, (tm 56)), (4, 1, (tm 58))]),
 iC 60 19 [(tm 51), (tm 59)],
 iV 5 (.aa (tm 60))])
 (.seq
 (.seq
 (.region [iV 61 (.aj 0 (tm 8)),
 iV 62 (.load none (tm 61)),
 iV 6 (.aa (tm 62))])
 (.seq
 (.region [iV 63 (.aa (tm 6)),
 iV 64 (.eq false (.aG 1) (tm 63) (kI 3))])
 (.cond (.tmp 64)
 (.region [iV 65 (.aa (tm 6)),
 iV 66 (.bin .sub (tm 65) (kI 1)),
 iV 6 (.aa (tm 66))])
 .skip)))
 (.exit 1))))))))))
def dH : au :=
 ⟨68,
 (.seq
 (.region [iV 4 (.aa (kI 0))])
 (.seq
 (.region [iV 10 (.aa (tm 0)),
 iC 11 100 [(tm 10)],
 iV 5 (.aa (tm 11))])
 (.seq
 (.region [iV 6 (.aa (kI 6))])
 (.seq
 .skip
 (.seq
 (.block 0
 (.loop dk))
 (.seq
 (.region [iV 67 (.aa (tm 5)),
 iV 4 (.aa (tm 67))])
 .ret)))))),
 [.tmp 4]⟩
theorem ZM : bP Tryd.prog G Tryd.f97 = some dH := by kernel_rfl
/- (*balustrade/expr.Reader).arguments -/
abbrev lg : Nat := 98
def aJ : aE :=
 (.seq
 (.seq
 (.region [iV 21 (.aa (tm 5)),
 iV 22 (.aa (tm 21)),
 iG 23 (.aa (tm 0)) 22 true,
 iH 24 29 [(tm 23)] 22 true,
 iV 25 (.pick (tm 22) (tm 24) (.const (.bool false)))])
 (.cond (.tmp 25)
 .skip
 (.exit 0)))
 (.seq
 (.block 1
 (.seq
 (.seq
 (.region [iV 28 (.aa (tm 4)),
 iV 29 (.len (tm 28)),
 iV 30 (.eq false (.aG 1) (tm 29) (kI 8))])
 (.cond (.tmp 30)
 (.region [iV 31 (.aa (tm 0)),
 iV 32 (.aa (tm 0)),
 iC 33 15 [(tm 32)],
 iV 34 (.AX none 3 (tm 33)),
 iC 35 17 [(tm 31), (kI 3), (tm 34)]])
 .skip))
 (.region [iV 36 (.aa (tm 4)),
 iV 37 (.aa (tm 0)),
 iC 38 88 [(tm 37)],
 iV 39 (.bt 3 1 1 [(.int .i64 0)] [(0, (tm 38))]),
 iV 40 (.append 3 1 8 (tm 36) (tm 39)),
 iV 4 (.aa (tm 40))])))
 (.region [iV 26 (.aa (tm 0)),
 iC 27 56 [(tm 26), (kS [44])],
 iV 5 (.aa (tm 27))])))
def cw : au :=
 ⟨46,
 (.seq
 (.region [iV 2 (.aa (.const .ae))])
 (.seq
 (.region [iV 6 (.aa (tm 0)),
 iC 7 15 [(tm 6)],
 iV 8 (.AX none 3 (tm 7)),
 iV 3 (.aa (tm 8))])
 (.seq
 (.seq
 (.region [iV 9 (.aa (tm 0)),
 iC 10 30 [(tm 9), (kS [40])],
 iV 11 (.un .not (tm 10)),
 iV 12 (.aa (tm 11)),
 iG 13 (.aa (tm 0)) 12 false,
 iG 14 (.aa (tm 3)) 12 false,
 iH 15 58 [(tm 13), (tm 14)] 12 false,
 iG 16 (.un .not (tm 15)) 12 false,
 iV 17 (.pick (tm 12) (.const (.bool true)) (tm 16))])
 (.cond (.tmp 17)
 (.seq
 (.region [iV 2 (.aa (.const .ae))])
 .ret)
 .skip))
 (.seq
 (.region [iV 4 (.aa (.const .ae))])
 (.seq
 (.seq
 (.region [iV 18 (.aa (tm 0)),
 iC 19 16 [(tm 18), (kS [41])],
 iV 20 (.un .not (tm 19)),
 iV 5 (.aa (tm 20))])
 (.block 0
 (.loop aJ)))
 (.seq
 (.region [iV 41 (.aa (tm 0)),
 iC 42 30 [(tm 41), (kS [41])]])
 (.seq
 (.region [iV 43 (.aa (tm 0)),
 iC 44 60 [(tm 43)]])
 (.seq
 (.region [iV 45 (.aa (tm 4)),
 iV 2 (.aa (tm 45))])
 .ret)))))))),
 [.tmp 2]⟩
theorem ZL : bP Tryd.prog G Tryd.f98 = some cw := by kernel_rfl
/- internal/bytealg.hashStr[string] -/
abbrev yc : Nat := 99
def kz : aE :=
 (.seq
 (.seq
 (.region [iV 9 (.aa (tm 5)),
 iV 10 (.aa (tm 0)),
 iV 11 (.cD (tm 10)),
 iV 12 (.bin .lss (tm 9) (tm 11))])
 (.cond (.tmp 12)
 .skip
 (.exit 0)))
 (.seq
 (.block 1
 (.region [iV 15 (.aa (tm 4)),
 iV 16 (.bin .mul (tm 15) (.const (.int .u32 16777619))),
 iV 17 (.aa (tm 0)),
 iV 18 (.aa (tm 5)),
 iV 19 (.eu (tm 17) (tm 18)),
 iV 20 (.conv (.int .u32) (tm 19)),
 iV 21 (.bin .add (tm 16) (tm 20)),
 iV 4 (.aa (tm 21))]))
 (.region [iV 13 (.aa (tm 5)),
 iV 14 (.bin .add (tm 13) (kI 1)),
 iV 5 (.aa (tm 14))])))
def ku : aE :=
 (.seq
 (.seq
 (.region [iV 24 (.aa (tm 8)),
 iV 25 (.bin .gtr (tm 24) (kI 0))])
 (.cond (.tmp 25)
 .skip
 (.exit 2)))
 (.seq
 (.block 3
 (.seq
 (.seq
 (.region [iV 28 (.aa (tm 8)),
 iV 29 (.bin .and (tm 28) (kI 1)),
 iV 30 (.eq true (.aG 1) (tm 29) (kI 0))])
 (.cond (.tmp 30)
 (.region [iV 31 (.aa (tm 6)),
 iV 32 (.aa (tm 7)),
 iV 33 (.bin .mul (tm 31) (tm 32)),
 iV 6 (.aa (tm 33))])
 .skip))
 (.region [iV 34 (.aa (tm 7)),
 iV 35 (.aa (tm 7)),
 iV 36 (.bin .mul (tm 34) (tm 35)),
 iV 7 (.aa (tm 36))])))
 (.region [iV 26 (.aa (tm 8)),
 iV 27 (.bin .shr (tm 26) (.const (.int .u64 1))),
 iV 8 (.aa (tm 27))])))
def bF : au :=
 ⟨39,
 (.seq
 (.region [iV 2 (.aa (.const (.int .u32 0))),
 iV 3 (.aa (.const (.int .u32 0)))])
 (.seq
 (.region [iV 4 (.aa (.const (.int .u32 0)))])
 (.seq
 (.seq
 (.region [iV 5 (.aa (kI 0))])
 (.block 0
 (.loop kz)))
 (.seq
 (.region [iV 6 (.aa (.const (.int .u32 1))),
 iV 7 (.aa (.const (.int .u32 16777619)))])
 (.seq
 (.seq
 (.region [iV 22 (.aa (tm 0)),
 iV 23 (.cD (tm 22)),
 iV 8 (.aa (tm 23))])
 (.block 2
 (.loop ku)))
 (.seq
 (.region [iV 37 (.aa (tm 4)),
 iV 38 (.aa (tm 6)),
 iV 2 (.aa (tm 37)),
 iV 3 (.aa (tm 38))])
 .ret)))))),
 [.tmp 2, .tmp 3]⟩
theorem ZK : bP Tryd.prog G Tryd.f99 = some bF := by kernel_rfl
/- (*balustrade/expr.Reader).front -/
abbrev et : Nat := 100
def dG : au :=
 ⟨35,
 (.seq
 (.region [iV 2 (.aa (kI 0))])
 (.seq
 (.region [iV 6 (.aa (tm 0)),
 iC 7 15 [(tm 6)],
 iV 3 (.alloc 36 [(.int .i64 0), (.str []), (.int .i64 0), (.int .i64 0)]),
 iN (.store 4 (tm 3) (tm 7))])
 (.seq
 (.region [iV 4 (.aa (kI 0))])
 (.seq
 (.block 0
 (.seq
 (.region [iV 13 (.aa (tm 0)),
 iC 14 56 [(tm 13), (kS [45])],
 iV 12 (.aa (tm 14))])
 (.cond (.tmp 12)
 (.region [iV 4 (.aa (kI 6))])
 (.seq
 (.region [iV 16 (.aa (tm 0)),
 iC 17 56 [(tm 16), (kS [33])],
 iV 15 (.aa (tm 17))])
 (.cond (.tmp 15)
 (.region [iV 4 (.aa (kI 7))])
 (.seq
 (.region [iV 8 (.aa (tm 0)),
 iV 9 (.aa (tm 0)),
 iC 10 103 [(tm 9)],
 iC 11 102 [(tm 8), (tm 10)],
 iV 2 (.aa (tm 11))])
 .ret))))))
 (.seq
 (.seq
 (.region [iV 18 (.aa (tm 0)),
 iV 19 (.aj 3 (tm 3)),
 iV 20 (.load none (tm 19)),
 iC 21 58 [(tm 18), (tm 20)],
 iV 22 (.un .not (tm 21))])
 (.cond (.tmp 22)
 (.seq
 (.region [iV 2 (.aa (kI (-1)))])
 .ret)
 .skip))
 (.seq
 (.region [iV 23 (.aa (tm 0)),
 iC 24 100 [(tm 23)],
 iV 5 (.aa (tm 24))])
 (.seq
 (.region [iV 25 (.aa (tm 0)),
 iC 26 60 [(tm 25)]])
 (.seq
 (.region [iV 27 (.aa (tm 0)),
 iV 28 (.aa (tm 4)),
 iV 29 (.aa (tm 5)),
 iV 30 (.bt 3 1 1 [(.int .i64 0)] [(0, (tm 29))]),
 iV 31 (.aj 3 (tm 3)),
 iV 32 (.load none (tm 31)),
 iV 33 (.build [(.int .i64 0), .ae, (.int .i64 0), (.str []), (.int .i64 0)] [(0, 1, (tm 28)), (1, 1, (tm 30)), (4, 1, (tm 32))]),
 iC 34 19 [(tm 27), (tm 33)],
 iV 2 (.aa (tm 34))])
 .ret)))))))),
 [.tmp 2]⟩
theorem Xq : bP Tryd.prog G Tryd.f100 = some dG := by kernel_rfl
/- balustrade/expr.ops -/
abbrev Lu : Nat := 101
def jV : au :=
 ⟨53,
 (.seq
 (.region [iV 2 (.alloc 105 [(.int .i64 0), (.int .i64 0)])])
 (.seq
 (.seq
 (.region [iV 3 (.aa (tm 0))])
 (.block 0
 (.seq
 (.region [iV 5 (.eq false (.aG 2) (tm 3) (kS [124, 124])),
 iV 4 (.aa (tm 5))])
 (.cond (.tmp 4)
 (.seq
 (.region [iV 6 (.build [(.int .i64 0), (.int .i64 0)] [(0, 1, (kI 1)), (1, 1, (kI 1))]),
 iN (.store 2 (tm 2) (tm 6))])
 .ret)
 (.seq
 (.region [iV 8 (.eq false (.aG 2) (tm 3) (kS [38, 38])),
 iV 7 (.aa (tm 8))])
 (.cond (.tmp 7)
 (.seq
 (.region [iV 9 (.build [(.int .i64 0), (.int .i64 0)] [(0, 1, (kI 2)), (1, 1, (kI 2))]),
 iN (.store 2 (tm 2) (tm 9))])
 .ret)
 (.seq
 (.region [iV 11 (.eq false (.aG 2) (tm 3) (kS [61, 61])),
 iV 10 (.aa (tm 11))])
 (.cond (.tmp 10)
 (.seq
 (.region [iV 12 (.build [(.int .i64 0), (.int .i64 0)] [(0, 1, (kI 3)), (1, 1, (kI 3))]),
 iN (.store 2 (tm 2) (tm 12))])
 .ret)
 (.seq
 (.region [iV 14 (.eq false (.aG 2) (tm 3) (kS [33, 61])),
 iV 13 (.aa (tm 14))])
 (.cond (.tmp 13)
 (.seq
 (.region [iV 15 (.build [(.int .i64 0), (.int .i64 0)] [(0, 1, (kI 3)), (1, 1, (kI 4))]),
 iN (.store 2 (tm 2) (tm 15))])
 .ret)
 (.seq
 (.region [iV 17 (.eq false (.aG 2) (tm 3) (kS [60])),
 iV 16 (.aa (tm 17))])
 (.cond (.tmp 16)
 (.seq
 (.region [iV 18 (.build [(.int .i64 0), (.int .i64 0)] [(0, 1, (kI 3)), (1, 1, (kI 5))]),
 iN (.store 2 (tm 2) (tm 18))])
 .ret)
 (.seq
 (.region [iV 20 (.eq false (.aG 2) (tm 3) (kS [60, 61])),
 iV 19 (.aa (tm 20))])
 (.cond (.tmp 19)
 (.seq
 (.region [iV 21 (.build [(.int .i64 0), (.int .i64 0)] [(0, 1, (kI 3)), (1, 1, (kI 6))]),
 iN (.store 2 (tm 2) (tm 21))])
 .ret)
 (.seq
 (.region [iV 23 (.eq false (.aG 2) (tm 3) (kS [62])),
 iV 22 (.aa (tm 23))])
 (.cond (.tmp 22)
 (.seq
 (.region [iV 24 (.build [(.int .i64 0), (.int .i64 0)] [(0, 1, (kI 3)), (1, 1, (kI 7))]),
 iN (.store 2 (tm 2) (tm 24))])
 .ret)
 (.seq
 (.region [iV 26 (.eq false (.aG 2) (tm 3) (kS [62, 61])),
 iV 25 (.aa (tm 26))])
 (.cond (.tmp 25)
 (.seq
 (.region [iV 27 (.build [(.int .i64 0), (.int .i64 0)] [(0, 1, (kI 3)), (1, 1, (kI 8))]),
 iN (.store 2 (tm 2) (tm 27))])
 .ret)
 (.seq
 (.region [iV 29 (.eq false (.aG 2) (tm 3) (kS [43])),
 iV 28 (.aa (tm 29))])
 (.cond (.tmp 28)
 (.seq
 (.region [iV 30 (.build [(.int .i64 0), (.int .i64 0)] [(0, 1, (kI 4)), (1, 1, (kI 9))]),
 iN (.store 2 (tm 2) (tm 30))])
 .ret)
 (.seq
 (.region [iV 32 (.eq false (.aG 2) (tm 3) (kS [45])),
 iV 31 (.aa (tm 32))])
 (.cond (.tmp 31)
 (.seq
 (.region [iV 33 (.build [(.int .i64 0), (.int .i64 0)] [(0, 1, (kI 4)), (1, 1, (kI 10))]),
 iN (.store 2 (tm 2) (tm 33))])
 .ret)
 (.seq
 (.region [iV 35 (.eq false (.aG 2) (tm 3) (kS [43, 37])),
 iV 34 (.aa (tm 35))])
 (.cond (.tmp 34)
 (.seq
 (.region [iV 36 (.build [(.int .i64 0), (.int .i64 0)] [(0, 1, (kI 4)), (1, 1, (kI 11))]),
 iN (.store 2 (tm 2) (tm 36))])
 .ret)
 (.seq
 (.region [iV 38 (.eq false (.aG 2) (tm 3) (kS [45, 37])),
 iV 37 (.aa (tm 38))])
 (.cond (.tmp 37)
 (.seq
 (.region [iV 39 (.build [(.int .i64 0), (.int .i64 0)] [(0, 1, (kI 4)), (1, 1, (kI 12))]),
 iN (.store 2 (tm 2) (tm 39))])
 .ret)
 (.seq
 (.region [iV 41 (.eq false (.aG 2) (tm 3) (kS [42])),
 iV 40 (.aa (tm 41))])
 (.cond (.tmp 40)
 (.seq
 (.region [iV 42 (.build [(.int .i64 0), (.int .i64 0)] [(0, 1, (kI 5)), (1, 1, (kI 13))]),
 iN (.store 2 (tm 2) (tm 42))])
 .ret)
 (.seq
 (.region [iV 44 (.eq false (.aG 2) (tm 3) (kS [47])),
 iV 43 (.aa (tm 44))])
 (.cond (.tmp 43)
 (.seq
 (.region [iV 45 (.build [(.int .i64 0), (.int .i64 0)] [(0, 1, (kI 5)), (1, 1, (kI 14))]),
 iN (.store 2 (tm 2) (tm 45))])
 .ret)
 (.seq
 (.region [iV 47 (.eq false (.aG 2) (tm 3) (kS [37])),
 iV 46 (.aa (tm 47))])
 (.cond (.tmp 46)
 (.seq
 (.region [iV 48 (.build [(.int .i64 0), (.int .i64 0)] [(0, 1, (kI 5)), (1, 1, (kI 15))]),
 iN (.store 2 (tm 2) (tm 48))])
 .ret)
 (.seq
 (.region [iV 50 (.eq false (.aG 2) (tm 3) (kS [42, 37])),
 iV 49 (.aa (tm 50))])
 (.cond (.tmp 49)
 (.seq
 (.region [iV 51 (.build [(.int .i64 0), (.int .i64 0)] [(0, 1, (kI 5)), (1, 1, (kI 16))]),
 iN (.store 2 (tm 2) (tm 51))])
 .ret)
 .skip))))))))))))))))))))))))))))))))))
 (.seq
 (.region [iV 52 (.build [(.int .i64 0), (.int .i64 0)] []),
 iN (.store 2 (tm 2) (tm 52))])
 .ret))),
 [.cell 2 (some 2)]⟩
theorem Xp : bP Tryd.prog G Tryd.f101 = some jV := by kernel_rfl
/- (*balustrade/expr.Reader).cells -/
abbrev kl : Nat := 102
def dl : aE :=
 (.seq
 (.seq
 (.region [iV 7 (.aa (tm 0)),
 iC 8 16 [(tm 7), (kS [91])]])
 (.cond (.tmp 8)
 .skip
 (.exit 0)))
 (.block 1
 (.seq
 (.region [iV 9 (.aa (tm 0)),
 iC 10 15 [(tm 9)],
 iV 11 (.AX none 3 (tm 10)),
 iV 5 (.aa (tm 11))])
 (.seq
 (.region [iV 12 (.aa (tm 0)),
 iC 13 91 [(tm 12), (kS [91]), (kS [93])],
 iV 6 (.aa (tm 13))])
 (.region [iV 14 (.aa (tm 0)),
 iV 15 (.aa (tm 1)),
 iV 16 (.aa (tm 6)),
 iV 17 (.bt 3 1 2 [(.int .i64 0)] [(0, (tm 15)), (1, (tm 16))]),
 iV 18 (.aa (tm 5)),
 iV 19 (.build [(.int .i64 0), .ae, (.int .i64 0), (.str []), (.int .i64 0)] [(0, 1, (kI 8)), (1, 1, (tm 17)), (4, 1, (tm 18))]),
 iC 20 19 [(tm 14), (tm 19)],
 iV 1 (.aa (tm 20))])))))
def dI : au :=
 ⟨22,
 (.seq
 (.region [iV 4 (.aa (kI 0))])
 (.seq
 (.block 0
 (.loop dl))
 (.seq
 (.region [iV 21 (.aa (tm 1)),
 iV 4 (.aa (tm 21))])
 .ret))),
 [.tmp 4]⟩
theorem Xo : bP Tryd.prog G Tryd.f102 = some dI := by kernel_rfl
/- (*balustrade/expr.Reader).atom -/
abbrev ja : Nat := 103
def bR : au :=
 ⟨109,
 (.seq
 (.region [iV 2 (.aa (kI 0))])
 (.seq
 (.region [iV 4 (.aa (tm 0)),
 iC 5 15 [(tm 4)],
 iV 3 (.alloc 36 [(.int .i64 0), (.str []), (.int .i64 0), (.int .i64 0)]),
 iN (.store 4 (tm 3) (tm 5))])
 (.seq
 (.block 0
 (.seq
 (.region [iV 7 (.aa (tm 0)),
 iC 8 29 [(tm 7)],
 iV 9 (.un .not (tm 8)),
 iV 6 (.aa (tm 9))])
 (.cond (.tmp 6)
 (.seq
 (.region [iV 2 (.aa (kI (-1)))])
 .ret)
 (.seq
 (.region [iV 11 (.aa (tm 0)),
 iC 12 16 [(tm 11), (kS [40])],
 iV 10 (.aa (tm 12))])
 (.cond (.tmp 10)
 (.seq
 (.region [iV 13 (.aa (tm 0)),
 iC 14 91 [(tm 13), (kS [40]), (kS [41])],
 iV 2 (.aa (tm 14))])
 .ret)
 (.seq
 (.region [iV 16 (.aj 0 (tm 3)),
 iV 17 (.load none (tm 16)),
 iV 18 (.eq false (.aG 1) (tm 17) (kI 2)),
 iV 15 (.aa (tm 18))])
 (.cond (.tmp 15)
 (.seq
 (.region [iV 19 (.aa (tm 0)),
 iV 20 (.cy (tm 19)),
 iV 21 (.aj 1 (tm 20)),
 iV 22 (.load none (tm 21)),
 iV 23 (.bin .add (tm 22) (kI 1)),
 iV 24 (.cy (tm 19)),
 iV 25 (.aj 1 (tm 24)),
 iN (.store 1 (tm 25) (tm 23))])
 (.seq
 (.region [iV 26 (.aa (tm 0)),
 iV 27 (.aj 2 (tm 3)),
 iV 28 (.load none (tm 27)),
 iV 29 (.aj 3 (tm 3)),
 iV 30 (.load none (tm 29)),
 iV 31 (.build [(.int .i64 0), .ae, (.int .i64 0), (.str []), (.int .i64 0)] [(0, 1, (kI 1)), (2, 1, (tm 28)), (4, 1, (tm 30))]),
 iC 32 19 [(tm 26), (tm 31)],
 iV 2 (.aa (tm 32))])
 .ret))
 (.seq
 (.region [iV 34 (.aj 0 (tm 3)),
 iV 35 (.load none (tm 34)),
 iV 36 (.eq false (.aG 1) (tm 35) (kI 1)),
 iV 33 (.aa (tm 36))])
 (.cond (.tmp 33)
 (.seq
 (.region [iV 37 (.aa (tm 0)),
 iV 38 (.cy (tm 37)),
 iV 39 (.aj 1 (tm 38)),
 iV 40 (.load none (tm 39)),
 iV 41 (.bin .add (tm 40) (kI 1)),
 iV 42 (.cy (tm 37)),
 iV 43 (.aj 1 (tm 42)),
 iN (.store 1 (tm 43) (tm 41))])
 (.seq
 (.seq
 (.region [iV 44 (.aa (tm 0)),
 iC 45 16 [(tm 44), (kS [40])]])
 (.cond (.tmp 45)
 (.seq
 (.region [iV 46 (.aa (tm 0)),
 iV 47 (.aj 1 (tm 3)),
 iV 48 (.load none (tm 47)),
 iV 49 (.aj 3 (tm 3)),
 iV 50 (.load none (tm 49)),
 iC 51 90 [(tm 46), (tm 48), (tm 50)],
 iV 2 (.aa (tm 51))])
 .ret)
 .skip))
 (.seq
 (.region [iV 52 (.aa (tm 0)),
 iV 53 (.aj 1 (tm 3)),
 iV 54 (.load none (tm 53)),
 iV 55 (.aj 3 (tm 3)),
 iV 56 (.load none (tm 55)),
 iV 57 (.build [(.int .i64 0), .ae, (.int .i64 0), (.str []), (.int .i64 0)] [(0, 1, (kI 4)), (3, 1, (tm 54)), (4, 1, (tm 56))]),
 iC 58 19 [(tm 52), (tm 57)],
 iV 2 (.aa (tm 58))])
 .ret)))
 (.seq
 (.region [iV 60 (.aa (tm 0)),
 iC 61 56 [(tm 60), (kS [116, 114, 117, 101])],
 iV 59 (.aa (tm 61))])
 (.cond (.tmp 59)
 (.seq
 (.region [iV 62 (.aa (tm 0)),
 iV 63 (.aj 3 (tm 3)),
 iV 64 (.load none (tm 63)),
 iV 65 (.build [(.int .i64 0), .ae, (.int .i64 0), (.str []), (.int .i64 0)] [(0, 1, (kI 2)), (2, 1, (kI 1)), (4, 1, (tm 64))]),
 iC 66 19 [(tm 62), (tm 65)],
 iV 2 (.aa (tm 66))])
 .ret)
 (.seq
 (.region [iV 68 (.aa (tm 0)),
 iC 69 56 [(tm 68), (kS [102, 97, 108, 115, 101])],
 iV 67 (.aa (tm 69))])
 (.cond (.tmp 67)
 (.seq
 (.region [iV 70 (.aa (tm 0)),
 iV 71 (.aj 3 (tm 3)),
 iV 72 (.load none (tm 71)),
 iV 73 (.build [(.int .i64 0), .ae, (.int .i64 0), (.str []), (.int .i64 0)] [(0, 1, (kI 2)), (4, 1, (tm 72))]),
 iC 74 19 [(tm 70), (tm 73)],
 iV 2 (.aa (tm 74))])
 .ret)
 (.seq
 (.region [iV 76 (.aa (tm 0)),
 iC 77 56 [(tm 76), (kS [110, 105, 108])],
 iV 75 (.aa (tm 77))])
 (.cond (.tmp 75)
 (.seq
 (.region [iV 78 (.aa (tm 0)),
 iV 79 (.aj 3 (tm 3)),
 iV 80 (.load none (tm 79)),
 iV 81 (.build [(.int .i64 0), .ae, (.int .i64 0), (.str []), (.int .i64 0)] [(0, 1, (kI 3)), (4, 1, (tm 80))]),
 iC 82 19 [(tm 78), (tm 81)],
 iV 2 (.aa (tm 82))])
 .ret)
 (.seq
 (.region [iV 84 (.aa (tm 0)),
 iC 85 56 [(tm 84), (kS [108, 101, 110])],
 iV 83 (.aa (tm 85))])
 (.cond (.tmp 83)
 (.seq
 (.draw [iV 86 (.aa (tm 0)),
 iV 87 (.aa (tm 0)),
 iC 88 91 [(tm 87), (kS [40]), (kS [41])],
 iV 89 (.bt 3 1 1 [(.int .i64 0)] [(0, (tm 88))]),
 iV 90 (.aj 3 (tm 3)),
 iV 91 (.load none (tm 90)),
 iV 92 (.build [(.int .i64 0), .ae, (.int .i64 0), (.str []), (.int .i64 0)] [(0, 1, (kI 9)), (1, 1, (tm 89)), (4, 1, (tm 91))]),
 iC 93 19 [(tm 86), (tm 92)],
 iV 2 (.aa (tm 93))] [(5, 2)])
 .ret)
 (.seq
 (.region [iV 95 (.aa (tm 0)),
 iC 96 56 [(tm 95), (kS [110, 101, 119])],
 iV 94 (.aa (tm 96))])
 (.cond (.tmp 94)
 (.seq
 (.draw [iV 97 (.aa (tm 0)),
 iV 98 (.aa (tm 0)),
 iC 99 91 [(tm 98), (kS [40]), (kS [41])],
 iV 100 (.bt 3 1 1 [(.int .i64 0)] [(0, (tm 99))]),
 iV 101 (.aj 3 (tm 3)),
 iV 102 (.load none (tm 101)),
 iV 103 (.build [(.int .i64 0), .ae, (.int .i64 0), (.str []), (.int .i64 0)] [(0, 1, (kI 10)), (1, 1, (tm 100)), (4, 1, (tm 102))]),
 iC 104 19 [(tm 97), (tm 103)],
 iV 2 (.aa (tm 104))] [(5, 2)])
 .ret)
 .skip)))))))))))))))))))
 (.seq
 (.region [iV 105 (.aa (tm 0)),
 iV 106 (.aj 3 (tm 3)),
 iV 107 (.load none (tm 106)),
 iC 108 17 [(tm 105), (kI 8), (tm 107)]])
 (.seq
 (.region [iV 2 (.aa (kI (-1)))])
 .ret))))),
 [.tmp 2]⟩
theorem Xn : bP Tryd.prog G Tryd.f103 = some bR := by kernel_rfl
end
section
open Go Go.RowKit
theorem O2 {P : Program} {G : List Nat} (il : P.follows .mixedOrders = true) {T : Nat -> Option iq} (hT : ∀ f e, T f = some e -> KB P G f e) {k f : Nat} {F : au} (hf : T f = some (.go F))
  {args : List EV} {m m' : Mem} {b : Bool} (h : aT T k f args m = some (.ret (.bool b) m')) {ρ : ev} {w : World} {ay : Array Value} (hR : R w.heap.size ρ m w) (hG : jr G ρ)
  (qY : ∀ b L, ρ b = some L -> Live m b -> L.ro = true) (hv : fx ρ args ay.toList) : Calls P f ay w fun e w' => e = .returned (.bool b) /\ Below w.heap.size w w' := by
 cases k with
 | zero => simp [aT] at h
 | succ k =>
  simp only [aT, hf, ij] at h;obtain ⟨fn, h1, h2⟩ := hT f _ hf
  obtain ⟨_, hc⟩ := E8 il (ET il hT k) k h1 h2 h hR hG hv
  refine hc.mono fun e w' hp => ?_
  obtain ⟨ρ', v', rfl, zi, _, hs⟩ := hp
  cases zi
  refine ⟨rfl, hs.os, hs.tape, hs.output, hs.size, fun i hi => hs.kept i hi ?_⟩
  rintro ⟨b, L, h1, h2, h3, _⟩
  rw [qY b L h1 h2] at h3
  cases h3
def ae6 (n : Nat) : ev := fun b => if b < n then some ⟨b, 0, (match tabl b with | some l => l.length | none => 0), 1, true⟩ else none
def Xt (n : Nat) : Mem := ⟨n, .leaf⟩
theorem QT (n b : Nat) : (Xt n).get b = .dead := by unfold Mem.get Xt; simp only [Tr.zp]; rfl
def nT (c c' : Call) : Prop := ∀ f a m r, c f a m = some r -> c' f a m = some r
theorem wO {c c' : Call} (h : nT c c') {f : EV} {a : List EV} {m : Mem} {r : Fin} (e : fP c f a m = some r) : fP c' f a m = some r := by
 cases f <;> simp only [fP, reduceCtorEq] at e ⊢
 exact h _ _ _ _ e
theorem py {c c' : Call} (h : nT c c') : ∀ (ops : List ba) (fr : Fr) (m : Mem) (r : Out), gR c ops fr m = some r -> gR c' ops fr m = some r
 | [], fr, m, r, e => e
 | o :: ops, fr, m, r, e => by
  simp only [gR] at e ⊢
  cases hw : bh fr o.guard with
  | none => simp [hw] at e
  | some b =>
  cases b with
  | false => simp only [hw] at e ⊢; exact py h ops _ _ _ e
  | true =>
   simp only [hw] at e ⊢
   cases ho : o.op with
   | val op =>
    simp only [ho] at e ⊢
    cases hv : aB fr.eval op m with
    | none => simp [hv] at e
    | some q => obtain ⟨v, m1⟩ := q; simp only [hv] at e ⊢; exact py h ops _ _ _ e
   | call f args =>
    simp only [ho] at e ⊢
    cases hv : fP c (fr.eval f) (args.map fr.eval) m with
    | none => simp [hv] at e
    | some q =>
     rw [wO h hv]
     cases q with
     | ret v m1 => simp only [hv] at e ⊢; exact py h ops _ _ _ e
     | gI v m1 => simp only [hv] at e ⊢; exact e
   | panic x => simp only [ho] at e ⊢; exact e
   | defer f args =>
    simp only [ho] at e ⊢
    split at e
    ·exact py h ops _ _ _ e
    ·cases e
theorem jt {c c' : Call} (h : nT c c') {chk : List (Nat × Nat)} {B0 : Nat} : ∀ (ops : List ba) (i : Nat) (fr : Fr) (m : Mem) (sn : List (Nat × Mem)) (se : List Seen) (r : Out), dL c chk B0 ops i fr m sn se = some r -> dL c' chk B0 ops i fr m sn se = some r
 | [], i, fr, m, sn, se, r, e => e
 | o :: ops, i, fr, m, sn, se, r, e => by
  simp only [dL] at e ⊢
  cases hw : bh fr o.guard with
  | none => simp [hw] at e
  | some b =>
  cases b with
  | false => simp only [hw] at e ⊢; exact jt h ops _ _ _ _ _ _ e
  | true =>
   simp only [hw] at e ⊢
   cases ho : o.op with
   | panic x => simp [ho] at e
   | defer f x => simp [ho] at e
   | call f args =>
    simp only [ho] at e ⊢
    cases hv : fP c (fr.eval f) (args.map fr.eval) m with
    | none => simp [hv] at e
    | some q =>
     rw [wO h hv]
     cases q with
     | gI v m1 => simp [hv] at e
     | ret v m1 =>
      simp only [hv] at e ⊢
      cases hk : aY chk i m1 se <;> simp only [hk, cond_true, cond_false, reduceCtorEq] at e ⊢
      exact jt h ops _ _ _ _ _ _ e
   | val op =>
    simp only [ho] at e ⊢
    split at e
    ·cases hv : aB fr.eval op m with
     | none => simp [hv] at e
     | some q => obtain ⟨v, m1⟩ := q; simp only [hv] at e ⊢; exact jt h ops _ _ _ _ _ _ e
    ·cases hv : aB fr.eval op ⟨B0 + i, m.gH⟩ with
     | none => simp [hv] at e
     | some q => obtain ⟨v, m1⟩ := q; simp only [hv] at e ⊢; exact jt h ops _ _ _ _ _ _ e
    ·split at e
     ·rename_i agg x _
      cases hl : m.load agg (fr.eval x) with
      | none => simp [hl] at e
      | some v =>
       simp only [hl] at e ⊢
       cases hf : Gz (fr.eval x) <;> simp only [hf, cond_true, cond_false] at e ⊢
       ·cases hk : bE chk i agg (fr.eval x) v sn <;> simp only [hk, cond_true, cond_false, reduceCtorEq] at e ⊢
        exact jt h ops _ _ _ _ _ _ e
       ·cases hk : dQ chk i m.next sn <;> simp only [hk, cond_true, cond_false, reduceCtorEq] at e ⊢
        exact jt h ops _ _ _ _ _ _ e
     ·cases e
    ·rename_i h0 h1 h2
     cases hv : aB fr.eval op m with
     | none => simp [hv] at e
     | some q =>
      obtain ⟨v, m1⟩ := q
      simp only [hv] at e ⊢
      cases hk : aY chk i m1 se <;> simp only [hk, cond_true, cond_false, reduceCtorEq] at e ⊢
      exact jt h ops _ _ _ _ _ _ e
theorem zd {b b' : Fr -> Mem -> Option Out} (h : ∀ fr m r, b fr m = some r -> b' fr m = some r) : ∀ (n n' : Nat), n <= n' -> ∀ (fr : Fr) (m : Mem) (r : Out), iter b n fr m = some r -> iter b' n' fr m = some r
 | 0, n', _, fr, m, r, e => by simp [iter] at e
 | n + 1, 0, hn, fr, m, r, e => by omega
 | n + 1, n' + 1, hn, fr, m, r, e => by
  simp only [iter] at e ⊢
  cases hb : b fr m with
  | none => simp [hb] at e
  | some o =>
   rw [h _ _ _ hb];simp only [hb] at e
   cases o with
   | norm fX m1 => exact zd h n n' (by omega) fX m1 r e
   | exit id fX m1 => exact e
   | ret fX m1 => exact e
   | gI v fX m1 => exact e
theorem e9 {c c' : Call} (h : nT c c') {n n' : Nat} (hn : n <= n') : ∀ (x : aE) (fr : Fr) (m : Mem) (r : Out), ap c n x fr m = some r -> ap c' n' x fr m = some r
 | .skip, fr, m, r, e => e
 | .ret, fr, m, r, e => e
 | .exit id, fr, m, r, e => e
 | .region ops, fr, m, r, e => by simp only [ap] at e ⊢; exact py h _ _ _ _ e
 | .draw ops chk, fr, m, r, e => by simp only [ap] at e ⊢; exact jt h _ _ _ _ _ _ _ e
 | .seq a b, fr, m, r, e => by
  simp only [ap] at e ⊢
  cases ha : ap c n a fr m with
  | none => simp [ha] at e
  | some o =>
   rw [e9 h hn a _ _ _ ha];simp only [ha] at e
   cases o with
   | norm fX m1 => exact e9 h hn b _ _ _ e
   | exit id fX m1 => exact e
   | ret fX m1 => exact e
   | gI v fX m1 => exact e
 | .cond x a b, fr, m, r, e => by
  simp only [ap] at e ⊢
  split at e
  ·rename_i t _
   cases t <;> simp only [cond_true, cond_false] at e ⊢
   ·exact e9 h hn b _ _ _ e
   ·exact e9 h hn a _ _ _ e
  ·cases e
 | .block id a, fr, m, r, e => by
  simp only [ap] at e ⊢
  cases ha : ap c n a fr m with
  | none => simp [ha] at e
  | some o =>
   rw [e9 h hn a _ _ _ ha];simp only [ha] at e;exact e
 | .loop a, fr, m, r, e => by
  simp only [ap] at e ⊢
  exact zd (fun fr m r => e9 h hn a fr m r) n n' hn fr m r e
theorem oR {c c' : Call} (h : nT c c') {n n' : Nat} (hn : n <= n') {F : au} {args : List EV} {m : Mem} {r : Fin} (e : dz c n F args m = some r) : dz c' n' F args m = some r := by
 unfold dz at e ⊢
 cases hl : args.length.ble F.ntmps <;> simp only [hl, cond_true, cond_false, reduceCtorEq] at e ⊢
 cases hc : ap c n F.body ⟨cK args 0 .leaf, []⟩ m with
 | none => simp [hc] at e
 | some o =>
  rw [e9 h hn _ _ _ _ hc];simp only [hc] at e;exact e
theorem xX {c c' : Call} (h : nT c c') {n n' : Nat} (hn : n <= n') {d : Nat} {F : au} {args : List EV} {u : Option EV} {m m' : Mem} (e : fF c n d F args u m = some m') : fF c' n' d F args u m = some m' := by
 unfold fF at e ⊢
 cases hl : args.length.ble F.ntmps <;> simp only [hl, cond_true, cond_false, reduceCtorEq] at e ⊢
 cases hc : ap c n F.body (Fr.set ⟨cK args 0 .leaf, []⟩ d (u.getD .aD)) m with
 | none => simp [hc] at e
 | some o =>
  rw [e9 h hn _ _ _ _ hc];simp only [hc] at e;exact e
theorem hJ {c c' : Call} (h : nT c c') {n n' : Nat} (hn : n <= n') {rs : List lX} {D : List (Nat × Option Nat × au)} {fr : Fr} : ∀ (ds : List (Nat × List EV)) (u : Option EV) (m : Mem) (r : Fin), cO c n rs D fr ds u m = some r -> cO c' n' rs D fr ds u m = some r
 | [], none, m, r, e => e
 | [], some v, m, r, e => e
 | (g, args) :: ds, u, m, r, e => by
  simp only [cO] at e ⊢
  cases hd : mh g D with
  | none => simp [hd] at e
  | some q =>
   obtain ⟨b, F⟩ := q
   cases b with
   | some d =>
    simp only [hd] at e ⊢
    cases hb : fF c n d F args u m with
    | none => simp [hb] at e
    | some m1 =>
     rw [xX h hn hb];simp only [hb] at e;exact hJ h hn ds none m1 r e
   | none =>
    simp only [hd] at e ⊢
    cases hb : dz c n F args m with
    | none => simp [hb] at e
    | some fin =>
     rw [oR h hn hb];simp only [hb] at e
     cases fin with
     | ret v m1 => exact hJ h hn ds u m1 r e
     | gI v m1 =>
      cases u with
      | none => exact hJ h hn ds (some v) m1 r e
      | some x => cases e
theorem EW {c c' : Call} (h : nT c c') {n n' : Nat} (hn : n <= n') {F : au} {D : List (Nat × Option Nat × au)} {args : List EV} {m : Mem} {r : Fin} (e : jf c n F D args m = some r) : jf c' n' F D args m = some r := by
 unfold jf at e ⊢
 cases hl : args.length.ble F.ntmps <;> simp only [hl, cond_true, cond_false, reduceCtorEq] at e ⊢
 cases hc : ap c n F.body ⟨cK args 0 .leaf, []⟩ m with
 | none => simp [hc] at e
 | some o =>
  rw [e9 h hn _ _ _ _ hc];simp only [hc] at e
  cases o with
  | norm fr m => exact hJ h hn _ _ _ _ e
  | ret fr m => exact hJ h hn _ _ _ _ e
  | gI v fr m => exact hJ h hn _ _ _ _ e
  | exit id fr m => exact e
theorem kD (T : Nat -> Option iq) : ∀ (k k' : Nat), k <= k' -> nT (aT T k) (aT T k')
 | 0, k', _ => fun f a m r e => by simp [aT] at e
 | k + 1, 0, h => by omega
 | k + 1, k' + 1, h => fun f a m r e => by
  simp only [aT] at e ⊢
  cases hT : T f with
  | none => simp [hT] at e
  | some x =>
   simp only [hT] at e ⊢
   cases x with
   | go F => simp only [ij] at e ⊢; exact oR (kD T k k' (by omega)) (by omega) e
   | ext g => exact e
   | pure g => exact e
   | spec g => exact e
   | NW F D => simp only [ij] at e ⊢; exact EW (kD T k k' (by omega)) (by omega) e
mutual
def Flat : EV -> Bool
 | .ptr _ _ | .slice _ _ _ _ | .map _ | .fz _ _ _ | .fI _ _ _ _ => false
 | .func _ x y => fw x && fw y
 | .iface _ v => Flat v
 | .agg x | .tuple x => fw x
 | _ => true
def fw : List EV -> Bool
 | [] => true
 | v :: x => Flat v && fw x
end
mutual
theorem VR.flat {ρ ρ' : ev} : ∀ {v : EV} {v' : Value}, VR ρ v v' -> Flat v = true -> VR ρ' v v'
 | _, _, .undef, _ => .undef
 | _, _, .bool b, _ => .bool b
 | _, _, .int k n, _ => .int k n
 | _, _, .str s, _ => .str s
 | _, _, .bL, _ => .bL
 | _, _, .ptr _, h => by simp [Flat] at h
 | _, _, .ae, _ => .ae
 | _, _, .slice _ _ _ _, h => by simp [Flat] at h
 | _, _, .fG _ _ _, h => by simp [Flat] at h
 | _, _, .gN, h => by simp [Flat] at h
 | _, _, .bz, _ => .bz
 | _, _, .map _, h => by simp [Flat] at h
 | _, _, .aO, _ => .aO
 | _, _, .func hx hy, h => by simp only [Flat, pI] at h; exact .func (fx.flat hx h.1) (fx.flat hy h.2)
 | _, _, .aD, _ => .aD
 | _, _, .iface hv, h => .iface (VR.flat hv (by simpa only [Flat] using h))
 | _, _, .agg hx hf, h => .agg (fx.flat hx (by simpa only [Flat] using h)) hf
 | _, _, .tuple hx, h => .tuple (fx.flat hx (by simpa only [Flat] using h))
theorem fx.flat {ρ ρ' : ev} : ∀ {x : List EV} {x' : List Value}, fx ρ x x' -> fw x = true -> fx ρ' x x'
 | _, _, .nil, _ => .nil
 | _, _, .cons hv hs, h => by simp only [fw, pI] at h; exact .cons (VR.flat hv h.1) (fx.flat hs h.2)
end
theorem VR.SG {ρ ρ' : ev} {s : List UInt8} {v' : Value} (h : VR ρ' (.str s) v') : VR ρ (.str s) v' := by
 generalize hx : EV.str s = x at h
 cases h <;> cases hx
 exact .str _
theorem VR.QD {ρ ρ' : ev} {b off : Nat} {v' : Value} (h : VR ρ' (.slice b off 0 (some 0)) v') : VR ρ (.slice b off 0 (some 0)) v' := by
 cases h with
 | gN => exact .gN
 | fG h' hc ho => exact .gN
mutual
theorem VR.back {ρ ρ' : ev} (e : Ext ρ ρ') : ∀ {v : EV} {u v' : Value}, VR ρ v u -> VR ρ' v v' -> VR ρ v v'
 | _, _, _, .undef, h => by cases h; exact .undef
 | _, _, _, .bool _, h => by cases h; exact .bool _
 | _, _, _, .int _ _, h => by cases h; exact .int _ _
 | _, _, _, .str _, h => h.SG
 | _, _, _, .bL, h => by cases h; exact .bL
 | _, _, _, .ptr h, h2 => by cases h2 with | ptr h' => have := e _ _ h; rw [h'] at this; cases this; exact .ptr h
 | _, _, _, .ae, h => by cases h; exact .ae
 | _, _, _, .slice h _ _ _, h2 => by cases h2 with | slice h' hc ho hr => have := e _ _ h; rw [h'] at this; cases this; exact .slice h hc ho hr
 | _, _, _, .fG h _ _, h2 => by
  cases h2 with
  | fG h' hc ho => have := e _ _ h; rw [h'] at this; cases this; exact .fG h hc ho
  | gN => exact .gN
 | _, _, _, .gN, h2 => h2.QD
 | _, _, _, .bz, h => by cases h; exact .bz
 | _, _, _, .map h, h2 => by cases h2 with | map h' => have := e _ _ h; rw [h'] at this; cases this; exact .map h
 | _, _, _, .aO, h => by cases h; exact .aO
 | _, _, _, .func hx hy, h2 => by cases h2 with | func Nc Y5 => exact .func (fx.back e hx Nc) (fx.back e hy Y5)
 | _, _, _, .aD, h => by cases h; exact .aD
 | _, _, _, .iface h, h2 => by cases h2 with | iface h' => exact .iface (VR.back e h h')
 | _, _, _, .agg h _, h2 => by cases h2 with | agg h' hf => exact .agg (fx.back e h h') hf
 | _, _, _, .tuple h, h2 => by cases h2 with | tuple h' => exact .tuple (fx.back e h h')
theorem fx.back {ρ ρ' : ev} (e : Ext ρ ρ') : ∀ {x : List EV} {u v : List Value}, fx ρ x u -> fx ρ' x v -> fx ρ x v
 | _, _, _, .nil, h => by cases h; exact .nil
 | _, _, _, .cons h hs, h2 => by cases h2 with | cons h' HT => exact .cons (VR.back e h h') (fx.back e hs HT)
end
def aei (g : List EV -> Mem -> Option EV) : List EV -> Mem -> Option Fin := fun args m => (g args m).map fun v => .ret v m
def up (T : Nat -> Option iq) (f : Nat) (e : iq) : Nat -> Option iq := fun g => bif g.beq f then some e else T g
end
section
open Classical in
noncomputable def Ss {α : Type} (g : Nat -> Option α) : Option α := if h : ∃ r, ∃ k, g k = some r then some (Classical.choose h) else none
def Fk {α : Type} (g : Nat -> Option α) : Prop := ∀ k k' r, k <= k' -> g k = some r -> g k' = some r
theorem Fk.SA {α : Type} {g : Nat -> Option α} (h : Fk g) {k k' : Nat} {r r' : α} (e : g k = some r) (e' : g k' = some r') : r = r' := by
 have h1 := h k (max k k') r (Nat.le_max_left _ _) e
 have h2 := h k' (max k k') r' (Nat.le_max_right _ _) e'
 rw [h1] at h2; cases h2; rfl
theorem ql {α : Type} {g : Nat -> Option α} (h : Fk g) {r : α} : Ss g = some r ↔ ∃ k, g k = some r := by
 unfold Ss
 constructor
 ·intro e
  split at e
  ·rename_i hx
   cases e
   exact Classical.choose_spec hx
  ·cases e
 ·rintro ⟨k, hk⟩
  have hx : ∃ r, ∃ k, g k = some r := ⟨r, k, hk⟩
  rw [dif_pos hx];obtain ⟨k', oP⟩ := Classical.choose_spec hx
  rw [h.SA hk oP]
theorem dh {α : Type} {a b : Option α} (h : ∀ r, a = some r ↔ b = some r) : a = b := by
 cases b with
 | some y => exact (h y).2 rfl
 | none =>
  cases a with
  | none => rfl
  | some x => exact absurd ((h x).1 rfl) (by simp)
section
variable (T : Nat -> Option iq)
noncomputable def run (f : Nat) (args : List EV) (m : Mem) : Option Fin := Ss fun k => aT T k f args m
noncomputable def exec (c : aE) (fr : Fr) (m : Mem) : Option Out := Ss fun k => ap (aT T k) k c fr m
noncomputable def oq (l : List ba) (fr : Fr) (m : Mem) : Option Out := Ss fun k => gR (aT T k) l fr m
noncomputable def kZ (chk : List (Nat × Nat)) (B0 : Nat) (l : List ba) (i : Nat) (fr : Fr) (m : Mem) (sn : List (Nat × Mem)) (se : List Seen) : Option Out := Ss fun k => dL (aT T k) chk B0 l i fr m sn se
end
section
variable {T : Nat -> Option iq}
theorem Em {f : Nat} {args : List EV} {m : Mem} : Fk fun k => aT T k f args m := fun k k' _ h e => kD T k k' h _ _ _ _ e
theorem js {c : aE} {fr : Fr} {m : Mem} : Fk fun k => ap (aT T k) k c fr m := fun k k' _ h e => e9 (kD T k k' h) h _ _ _ _ e
theorem Gu {l : List ba} {fr : Fr} {m : Mem} : Fk fun k => gR (aT T k) l fr m := fun k k' _ h e => py (kD T k k' h) _ _ _ _ e
theorem Ju {chk : List (Nat × Nat)} {B0 : Nat} {l : List ba} {i : Nat} {fr : Fr} {m : Mem} {sn : List (Nat × Mem)} {se : List Seen} : Fk fun k => dL (aT T k) chk B0 l i fr m sn se := fun k k' _ h e => jt (kD T k k' h) _ _ _ _ _ _ _ e
theorem mR {f : Nat} {args : List EV} {m : Mem} {r : Fin} : run T f args m = some r ↔ ∃ k, aT T k f args m = some r := ql Em
theorem cj {c : aE} {fr : Fr} {m : Mem} {r : Out} : exec T c fr m = some r ↔ ∃ k, ap (aT T k) k c fr m = some r := ql js
theorem gu {l : List ba} {fr : Fr} {m : Mem} {r : Out} : oq T l fr m = some r ↔ ∃ k, gR (aT T k) l fr m = some r := ql Gu
theorem fY {chk : List (Nat × Nat)} {B0 : Nat} {l : List ba} {i : Nat} {fr : Fr} {m : Mem} {sn : List (Nat × Mem)} {se : List Seen} {r : Out} : kZ T chk B0 l i fr m sn se = some r ↔ ∃ k, dL (aT T k) chk B0 l i fr m sn se = some r := ql Ju
theorem rW {fr : Fr} {m : Mem} : exec T .skip fr m = some (.norm fr m) := cj.2 ⟨0, rfl⟩
theorem ve {fr : Fr} {m : Mem} : exec T .ret fr m = some (.ret fr m) := cj.2 ⟨0, rfl⟩
theorem rX {id : Nat} {fr : Fr} {m : Mem} : exec T (.exit id) fr m = some (.exit id fr m) := cj.2 ⟨0, rfl⟩
theorem nE {l : List ba} {fr : Fr} {m : Mem} : exec T (.region l) fr m = oq T l fr m := rfl
theorem Pp {l : List ba} {chk : List (Nat × Nat)} {fr : Fr} {m : Mem} : exec T (.draw l chk) fr m = kZ T chk m.next l 0 fr ⟨m.next + l.length, m.gH⟩ [] [] := rfl
def l7 (o : Option Out) (k : Fr -> Mem -> Option Out) : Option Out := match o with
 | some (.norm fr m) => k fr m
 | o => o
theorem vd {a b : aE} {fr : Fr} {m : Mem} : exec T (.seq a b) fr m = l7 (exec T a fr m) (exec T b) := by
 refine dh fun r => ?_
 rw [cj]
 constructor
 ·rintro ⟨k, h⟩
  simp only [ap] at h
  cases ha : ap (aT T k) k a fr m with
  | none => simp [ha] at h
  | some o =>
   rw [cj.2 ⟨k, ha⟩];simp only [ha] at h
   cases o with
   | norm fX m1 => exact cj.2 ⟨k, h⟩
   | exit id fX m1 => exact h
   | ret fX m1 => exact h
   | gI v fX m1 => exact h
 ·intro h
  cases ha : exec T a fr m with
  | none => simp [ha, l7] at h
  | some o =>
   obtain ⟨k1, h1⟩ := cj.1 ha
   simp only [ha, l7] at h
   cases o with
   | norm fX m1 =>
    obtain ⟨k2, h2⟩ := cj.1 h
    refine ⟨max k1 k2, ?_⟩
    simp only [ap];have e1 := js _ _ _ (Nat.le_max_left k1 k2) h1
    have e2 := js _ _ _ (Nat.le_max_right k1 k2) h2
    simp only at e1 e2
    rw [e1]; exact e2
   | exit id fX m1 => refine ⟨k1, ?_⟩; simp only [ap, h1]; exact h
   | ret fX m1 => refine ⟨k1, ?_⟩; simp only [ap, h1]; exact h
   | gI v fX m1 => refine ⟨k1, ?_⟩; simp only [ap, h1]; exact h
theorem GL {c : aW} {a b : aE} {fr : Fr} {m : Mem} {t : Bool} (h : fr.eval c = .bool t) : exec T (.cond c a b) fr m = bif t then exec T a fr m else exec T b fr m := by
 refine dh fun r => ?_
 rw [cj];simp only [ap, h]
 cases t
 ·simp only [cond_false]; exact cj.symm
 ·simp only [cond_true]; exact cj.symm
def pi (id : Nat) (o : Option Out) : Option Out := match o with
 | some (.exit j fr m) => bif j.beq id then some (.norm fr m) else some (.exit j fr m)
 | o => o
theorem pu {id : Nat} {a : aE} {fr : Fr} {m : Mem} : exec T (.block id a) fr m = pi id (exec T a fr m) := by
 refine dh fun r => ?_
 rw [cj]
 constructor
 ·rintro ⟨k, h⟩
  simp only [ap] at h
  cases ha : ap (aT T k) k a fr m with
  | none => simp [ha] at h
  | some o => rw [cj.2 ⟨k, ha⟩]; rw [ha] at h; exact h
 ·intro h
  cases ha : exec T a fr m with
  | none => simp [ha, pi] at h
  | some o =>
   obtain ⟨k1, h1⟩ := cj.1 ha
   rw [ha] at h;refine ⟨k1, ?_⟩; simp only [ap, h1]; exact h
theorem eB {a : aE} {fr : Fr} {m : Mem} : exec T (.loop a) fr m = l7 (exec T a fr m) (exec T (.loop a)) := by
 refine dh fun r => ?_
 rw [cj]
 constructor
 ·rintro ⟨k, h⟩
  simp only [ap] at h
  cases k with
  | zero => simp [iter] at h
  | succ k =>
   have h' : (match ap (aT T (k + 1)) (k + 1) a fr m with | some (.norm fr m) => iter (ap (aT T (k + 1)) (k + 1) a) k fr m | o => o) = some r := by
    rw [<- h]; rfl
   cases ha : ap (aT T (k + 1)) (k + 1) a fr m with
   | none => simp [ha] at h'
   | some o =>
    rw [cj.2 ⟨k + 1, ha⟩];simp only [ha] at h'
    cases o with
    | norm fX m1 =>
     refine cj.2 ⟨k + 1, ?_⟩
     simp only [ap];exact zd (fun fr m r e => e) k (k + 1) (by omega) _ _ _ h'
    | exit id fX m1 => exact h'
    | ret fX m1 => exact h'
    | gI v fX m1 => exact h'
 ·intro h
  cases ha : exec T a fr m with
  | none => simp [ha, l7] at h
  | some o =>
   obtain ⟨k1, h1⟩ := cj.1 ha
   simp only [ha, l7] at h;have key : ∀ k2, (∀ r1, iter (ap (aT T k2) k2 a) k2 fr m = some r1 -> True) -> True := fun _ _ => trivial
   cases o with
   | norm fX m1 =>
    obtain ⟨k2, h2⟩ := cj.1 h
    simp only [ap] at h2;refine ⟨max k1 k2 + 1, ?_⟩
    have e1 := js _ _ _ (show k1 <= max k1 k2 + 1 by omega) h1
    simp only at e1
    simp only [ap, iter, e1];exact zd (fun fr m r e => e9 (kD T k2 (max k1 k2 + 1) (by omega)) (by omega) a fr m r e) k2 (max k1 k2) (by omega) _ _ _ h2
   | exit id fX m1 =>
    refine ⟨k1 + 1, ?_⟩
    have e1 := js _ _ _ (show k1 <= k1 + 1 by omega) h1
    simp only at e1
    simp only [ap, iter, e1]; exact h
   | ret fX m1 =>
    refine ⟨k1 + 1, ?_⟩
    have e1 := js _ _ _ (show k1 <= k1 + 1 by omega) h1
    simp only at e1
    simp only [ap, iter, e1]; exact h
   | gI v fX m1 =>
    refine ⟨k1 + 1, ?_⟩
    have e1 := js _ _ _ (show k1 <= k1 + 1 by omega) h1
    simp only at e1
    simp only [ap, iter, e1]; exact h
theorem uP {fr : Fr} {m : Mem} : oq T [] fr m = some (.norm fr m) := gu.2 ⟨0, rfl⟩
def gG (o : Option R1) (k : EV -> Mem -> Option Out) : Option Out := match o with
 | some (.val v m) => k v m
 | none => none
def pS (o : Option Fin) (fr : Fr) (k : EV -> Mem -> Option Out) : Option Out := match o with
 | some (.ret v m) => k v m
 | some (.gI v m) => some (.gI v fr m)
 | none => none
theorem rB {d : Option Nat} {op : lD} {l : List ba} {fr : Fr} {m : Mem} : oq T (⟨d, .val op, none⟩ :: l) fr m = gG (aB fr.eval op m) fun v m => oq T l (fr.put d v) m := by
 refine dh fun r => ?_
 rw [gu];simp only [gR, bh]
 cases h : aB fr.eval op m with
 | none => simp [gG]
 | some q => obtain ⟨v, m1⟩ := q; simp only [gG]; exact gu.symm
theorem Le {d : Option Nat} {op : Aq} {t : Nat} {w : Bool} {l : List ba} {fr : Fr} {m : Mem} {b : Bool} (h : fr.get t = .bool b) :
  oq T (⟨d, op, some (t, w)⟩ :: l) fr m = bif b == w then oq T (⟨d, op, none⟩ :: l) fr m else oq T l (fr.put d .undef) m := by
 refine dh fun r => ?_
 rw [gu];simp only [gR, bh, h]
 cases hb : b == w
 ·simp only [cond_false]; exact gu.symm
 ·simp only [cond_true]
  rw [gu];simp only [gR, bh]
theorem Ld {d : Option Nat} {x : aW} {l : List ba} {fr : Fr} {m : Mem} {t : Nat} {v : EV} (h : fr.eval x = .iface t v) : oq T (⟨d, .panic x, none⟩ :: l) fr m = some (.gI (.iface t v) fr m) := by
 refine gu.2 ⟨0, ?_⟩
 simp only [gR, bh, h]
def sV (F : au) (o : Option Out) : Option Fin := match o with
 | some (.norm fr m) | some (.ret fr m) => match fr.defers with
  | [] => (bN fr m F.results).map fun vs => .ret (one vs) m
  | _ => none
 | some (.gI v fr m) => match fr.defers with
  | [] => some (.gI v m)
  | _ => none
 | _ => none
theorem Qm {f : Nat} {F : au} (hf : T f = some (.go F)) {args : List EV} {m : Mem} (hn : args.length <= F.ntmps) : run T f args m = sV F (exec T F.body ⟨cK args 0 .leaf, []⟩ m) := by
 have hb : args.length.ble F.ntmps = true := Be hn
 refine dh fun r => ?_
 rw [mR]
 constructor
 ·rintro ⟨k, h⟩
  cases k with
  | zero => simp [aT] at h
  | succ k =>
   simp only [aT, hf, ij, dz, hb, cond_true] at h
   cases hc : ap (aT T k) k F.body ⟨cK args 0 .leaf, []⟩ m with
   | none => simp [hc] at h
   | some o =>
    rw [cj.2 ⟨k, hc⟩];simp only [hc] at h
    cases o <;> exact h
 ·intro h
  cases hc : exec T F.body ⟨cK args 0 .leaf, []⟩ m with
  | none => simp [hc, sV] at h
  | some o =>
   obtain ⟨k, hk⟩ := cj.1 hc
   rw [hc] at h;refine ⟨k + 1, ?_⟩
   simp only [aT, hf, ij, dz, hb, cond_true, hk]
   cases o <;> exact h
theorem Hm {f : Nat} {g : List EV -> Option EV} (hf : T f = some (.ext g)) {args : List EV} {m : Mem} : run T f args m = (g args).map fun v => .ret v m := by
 refine dh fun r => ?_
 rw [mR]
 constructor
 ·rintro ⟨k, h⟩
  cases k with
  | zero => simp [aT] at h
  | succ k => simpa only [aT, hf, ij] using h
 ·intro h; exact ⟨1, by simpa only [aT, hf, ij] using h⟩
theorem ru {f : Nat} {g : List EV -> Mem -> Option Fin} (hf : T f = some (.spec g)) {args : List EV} {m : Mem} : run T f args m = g args m := by
 refine dh fun r => ?_
 rw [mR]
 constructor
 ·rintro ⟨k, h⟩
  cases k with
  | zero => simp [aT] at h
  | succ k => simpa only [aT, hf, ij] using h
 ·intro h; exact ⟨1, by simpa only [aT, hf, ij] using h⟩
theorem run_pure {f : Nat} {g : List EV -> Option EV} (hf : T f = some (.pure g)) {args : List EV} {m : Mem} : run T f args m = (g args).map fun v => .ret v m := by
 refine dh fun r => ?_
 rw [mR]
 constructor
 ·rintro ⟨k, h⟩
  cases k with
  | zero => simp [aT] at h
  | succ k => simpa only [aT, hf, ij] using h
 ·intro h; exact ⟨1, by simpa only [aT, hf, ij] using h⟩
section
variable (T)
noncomputable def Kr (F : au) (args : List EV) (m : Mem) : Option Fin := Ss fun k => dz (aT T k) k F args m
noncomputable def It (d : Nat) (F : au) (args : List EV) (u : Option EV) (m : Mem) : Option Mem := Ss fun k => fF (aT T k) k d F args u m
noncomputable def mD (rs : List lX) (D : List (Nat × Option Nat × au)) (fr : Fr) (ds : List (Nat × List EV)) (u : Option EV) (m : Mem) : Option Fin := Ss fun k => cO (aT T k) k rs D fr ds u m
end
theorem xK {F : au} {args : List EV} {m : Mem} : Fk fun k => dz (aT T k) k F args m := fun k k' _ h e => oR (kD T k k' h) h e
theorem Bp {d : Nat} {F : au} {args : List EV} {u : Option EV} {m : Mem} : Fk fun k => fF (aT T k) k d F args u m := fun k k' _ h e => xX (kD T k k' h) h e
theorem qi {rs : List lX} {D : List (Nat × Option Nat × au)} {fr : Fr} {ds : List (Nat × List EV)} {u : Option EV} {m : Mem} : Fk fun k => cO (aT T k) k rs D fr ds u m := fun k k' _ h e => hJ (kD T k k' h) h _ _ _ _ e
theorem A9 {F : au} {args : List EV} {m : Mem} {r : Fin} : Kr T F args m = some r ↔ ∃ k, dz (aT T k) k F args m = some r := ql xK
theorem x9 {d : Nat} {F : au} {args : List EV} {u : Option EV} {m : Mem} {r : Mem} : It T d F args u m = some r ↔ ∃ k, fF (aT T k) k d F args u m = some r := ql Bp
theorem fA {rs : List lX} {D : List (Nat × Option Nat × au)} {fr : Fr} {ds : List (Nat × List EV)} {u : Option EV} {m : Mem} {r : Fin} : mD T rs D fr ds u m = some r ↔ ∃ k, cO (aT T k) k rs D fr ds u m = some r := ql qi
theorem R5 {F : au} {args : List EV} {m : Mem} (hn : args.length <= F.ntmps) : Kr T F args m = sV F (exec T F.body ⟨cK args 0 .leaf, []⟩ m) := by
 have hb : args.length.ble F.ntmps = true := Be hn
 refine dh fun r => ?_
 rw [A9]
 constructor
 ·rintro ⟨k, h⟩
  simp only [dz, hb, cond_true] at h
  cases hc : ap (aT T k) k F.body ⟨cK args 0 .leaf, []⟩ m with
  | none => simp [hc] at h
  | some o =>
   rw [cj.2 ⟨k, hc⟩];simp only [hc] at h
   cases o <;> exact h
 ·intro h
  cases hc : exec T F.body ⟨cK args 0 .leaf, []⟩ m with
  | none => simp [hc, sV] at h
  | some o =>
   obtain ⟨k, hk⟩ := cj.1 hc
   rw [hc] at h;refine ⟨k, ?_⟩
   simp only [dz, hb, cond_true, hk]
   cases o <;> exact h
def SN (rs : List lX) (o : Option Out) : Option Mem := match o with
 | some (.norm fr m) => match fr.defers with
  | [] => (bN fr m rs).map fun _ => m
  | _ => none
 | some (.ret fr m) => match fr.defers with
  | [] => (bN fr m rs).map fun _ => m
  | _ => none
 | _ => none
theorem PB {d : Nat} {F : au} {args : List EV} {u : Option EV} {m : Mem} (hn : args.length <= F.ntmps) : It T d F args u m = SN F.results (exec T F.body (Fr.set ⟨cK args 0 .leaf, []⟩ d (u.getD .aD)) m) := by
 have hb : args.length.ble F.ntmps = true := Be hn
 refine dh fun r => ?_
 rw [x9]
 constructor
 ·rintro ⟨k, h⟩
  simp only [fF, hb, cond_true] at h
  cases hc : ap (aT T k) k F.body (Fr.set ⟨cK args 0 .leaf, []⟩ d (u.getD .aD)) m with
  | none => simp [hc] at h
  | some o =>
   rw [cj.2 ⟨k, hc⟩];simp only [hc] at h
   cases o <;> exact h
 ·intro h
  cases hc : exec T F.body (Fr.set ⟨cK args 0 .leaf, []⟩ d (u.getD .aD)) m with
  | none => simp [hc, SN] at h
  | some o =>
   obtain ⟨k, hk⟩ := cj.1 hc
   rw [hc] at h;refine ⟨k, ?_⟩
   simp only [fF, hb, cond_true, hk]
   cases o <;> exact h
theorem LA {rs : List lX} {D : List (Nat × Option Nat × au)} {fr : Fr} {m : Mem} : mD T rs D fr [] none m = (bN fr m rs).map fun vs => .ret (one vs) m := by
 refine dh fun r => ?_
 rw [fA];simp only [cO, exists_const]
theorem Lz {rs : List lX} {D : List (Nat × Option Nat × au)} {fr : Fr} {v : EV} {m : Mem} : mD T rs D fr [] (some v) m = some (.gI v m) := by
 refine dh fun r => ?_
 rw [fA];simp only [cO, exists_const]
theorem Ly {rs : List lX} {D : List (Nat × Option Nat × au)} {fr : Fr} {g d : Nat} {F : au} {args : List EV} {ds : List (Nat × List EV)} {u : Option EV} {m : Mem} (hd : mh g D = some (some d, F)) :
  mD T rs D fr ((g, args) :: ds) u m = (It T d F args u m).bind fun m => mD T rs D fr ds none m := by
 refine dh fun r => ?_
 rw [fA];simp only [cO, hd]
 constructor
 ·rintro ⟨k, h⟩
  cases hb : fF (aT T k) k d F args u m with
  | none => simp [hb] at h
  | some m1 =>
   simp only [hb] at h;rw [x9.2 ⟨k, hb⟩];exact fA.2 ⟨k, h⟩
 ·intro h
  obtain ⟨m1, h1, h2⟩ := Option.bind_eq_some_iff.1 h
  obtain ⟨k1, e1⟩ := x9.1 h1
  obtain ⟨k2, e2⟩ := fA.1 h2
  refine ⟨max k1 k2, ?_⟩
  have g1 := Bp _ _ _ (Nat.le_max_left k1 k2) e1
  have g2 := qi _ _ _ (Nat.le_max_right k1 k2) e2
  simp only at g1 g2
  simp only [g1]; exact g2
def Q3 (u : Option EV) (k : Option EV -> Mem -> Option Fin) : Option Fin -> Option Fin
 | some (.ret _ m) => k u m
 | some (.gI v m) => match u with
  | none => k (some v) m
  | some _ => none
 | none => none
theorem Jy {rs : List lX} {D : List (Nat × Option Nat × au)} {fr : Fr} {g : Nat} {F : au} {args : List EV} {ds : List (Nat × List EV)} {u : Option EV} {m : Mem} (hd : mh g D = some (none, F)) :
  mD T rs D fr ((g, args) :: ds) u m = Q3 u (fun u m => mD T rs D fr ds u m) (Kr T F args m) := by
 refine dh fun r => ?_
 rw [fA];simp only [cO, hd]
 constructor
 ·rintro ⟨k, h⟩
  cases hb : dz (aT T k) k F args m with
  | none => simp [hb] at h
  | some fin =>
   simp only [hb] at h;rw [A9.2 ⟨k, hb⟩]
   cases fin with
   | ret v m1 => exact fA.2 ⟨k, h⟩
   | gI v m1 =>
    cases u with
    | none => exact fA.2 ⟨k, h⟩
    | some x => cases h
 ·intro h
  cases hb : Kr T F args m with
  | none => simp [hb, Q3] at h
  | some fin =>
   obtain ⟨k1, e1⟩ := A9.1 hb
   rw [hb] at h;have AY : ∀ {u2 : Option EV} {m2 : Mem}, mD T rs D fr ds u2 m2 = some r -> ∃ k2, k1 <= k2 /\ cO (aT T k2) k2 rs D fr ds u2 m2 = some r := fun e => by
    obtain ⟨k2, e2⟩ := fA.1 e
    exact ⟨max k1 k2, Nat.le_max_left _ _, qi _ _ _ (Nat.le_max_right k1 k2) e2⟩
   cases fin with
   | ret v m1 =>
    obtain ⟨k2, hk, e2⟩ := AY h
    have g1 := xK _ _ _ hk e1
    simp only at g1
    exact ⟨k2, by simp only [g1]; exact e2⟩
   | gI v m1 =>
    cases u with
    | none =>
     obtain ⟨k2, hk, e2⟩ := AY h
     have g1 := xK _ _ _ hk e1
     simp only at g1
     exact ⟨k2, by simp only [g1]; exact e2⟩
    | some x => cases h
noncomputable def Xh (T : Nat -> Option iq) (rs : List lX) (D : List (Nat × Option Nat × au)) (o : Option Out) : Option Fin := match o with
 | some (.norm fr m) => mD T rs D fr fr.defers none m
 | some (.ret fr m) => mD T rs D fr fr.defers none m
 | some (.gI v fr m) => mD T rs D fr fr.defers (some v) m
 | _ => none
theorem SM {f : Nat} {F : au} {D : List (Nat × Option Nat × au)} (hf : T f = some (.NW F D)) {args : List EV} {m : Mem} (hn : args.length <= F.ntmps) : run T f args m = Xh T F.results D (exec T F.body ⟨cK args 0 .leaf, []⟩ m) := by
 have hb : args.length.ble F.ntmps = true := Be hn
 refine dh fun r => ?_
 rw [mR]
 constructor
 ·rintro ⟨k, h⟩
  cases k with
  | zero => simp [aT] at h
  | succ k =>
   simp only [aT, hf, ij, jf, hb, cond_true] at h
   cases hc : ap (aT T k) k F.body ⟨cK args 0 .leaf, []⟩ m with
   | none => simp [hc] at h
   | some o =>
    rw [cj.2 ⟨k, hc⟩];simp only [hc] at h
    cases o with
    | norm fr m1 => exact fA.2 ⟨k, h⟩
    | ret fr m1 => exact fA.2 ⟨k, h⟩
    | gI v fr m1 => exact fA.2 ⟨k, h⟩
    | exit id fr m1 => cases h
 ·intro h
  cases hc : exec T F.body ⟨cK args 0 .leaf, []⟩ m with
  | none => simp [hc, Xh] at h
  | some o =>
   obtain ⟨k1, e1⟩ := cj.1 hc
   rw [hc] at h;have AY : ∀ {fr : Fr} {ds : List (Nat × List EV)} {u2 : Option EV} {m2 : Mem}, mD T F.results D fr ds u2 m2 = some r -> ∃ k2, k1 <= k2 /\ cO (aT T k2) k2 F.results D fr ds u2 m2 = some r := fun e => by
    obtain ⟨k2, e2⟩ := fA.1 e
    exact ⟨max k1 k2, Nat.le_max_left _ _, qi _ _ _ (Nat.le_max_right k1 k2) e2⟩
   cases o with
   | exit id fr m1 => cases h
   | norm fr m1 =>
    obtain ⟨k2, hk, e2⟩ := AY h
    have g1 := js _ _ _ hk e1
    simp only at g1
    exact ⟨k2 + 1, by simp only [aT, hf, ij, jf, hb, cond_true, g1]; exact e2⟩
   | ret fr m1 =>
    obtain ⟨k2, hk, e2⟩ := AY h
    have g1 := js _ _ _ hk e1
    simp only at g1
    exact ⟨k2 + 1, by simp only [aT, hf, ij, jf, hb, cond_true, g1]; exact e2⟩
   | gI v fr m1 =>
    obtain ⟨k2, hk, e2⟩ := AY h
    have g1 := js _ _ _ hk e1
    simp only at g1
    exact ⟨k2 + 1, by simp only [aT, hf, ij, jf, hb, cond_true, g1]; exact e2⟩
end
end
end Go.Proofs.YtdiccmapankckaaDoor.Ev
