/- EvF6, EvF7, EvExt, EvDg, EvT, EvUp, EvS, EvA, EvA0, EvWk, EvU, PIs. -/
import Derived.Laws.Externs
import Derived.Lib.Bytealg
import Derived.KernelRfl
import Derived.Test.YtfbnghpabppljaaGreatDoorMf
set_option linter.unusedSimpArgs false
set_option linter.unusedVariables false
set_option linter.unusedSectionVars false
set_option linter.defProp false
set_option maxRecDepth 20000
set_option maxHeartbeats 8000000
namespace Go.Proofs.YtfbnghpabppljaaGreatDoor.Ev
open Go
section
abbrev JG:Nat:=84
def kQ:aC:=⟨6,(zJ [iz 2 false] (zJ [zV 3 (.aG 3 1 8 [(.int .i64 0)] [(0,(zI 4)),(1,(zI 11)),(2,(zI 12)),(3,(zI 13)),(4,(zI 14)),(5,(zI 17)),(6,(zI 24)),(7,(zI 25))]),ae 4 0,gX 5 65 3 4,ae 2 5] .ret)),[.tmp 2]⟩
theorem alf:bH Tryz.prog G Tryz.f84=some kQ:=by kernel_rfl
abbrev Nr:Nat:=85
def j7:ar:=zL (zJ [ae 4 3,ae 5 0,zV 6 (.gj (zT 5)),oT 7 4 6] (zX 7 0)) (zL (.block 1 (zJ [ae 10 0,ae 11 3,zV 12 (.kB (zT 10) (zT 11)),jn 13 52 12,w7 14 13,ae 15 14,eb 16 3 15 true,BJ 17 16 0 15 true,eb 18 17 15 true,eb 19 0 18 false,eb 20 3 18 false,zG 21 (.kB (zT 19) (zT 20)) 18 false,zH 22 50 [(zT 21)] 18 false,zG 23 (.un .not (zT 22)) 18 false,zG 24 (.pick (zT 18) (zB true) (zT 23)) 15 true,lK 25 15 24] (zU 25 (zJ [iz 2 false] .ret)))) (zR [ae 8 3,mI 9 8 1,ae 3 9]))
def mq:aC:=⟨39,(zJ [iz 2 false] (zL (zJ [eG 3 0] (.block 0 (.loop j7))) (zJ [ae 26 0,zV 27 (.gj (zT 26)),zV 28 (.bin .gtr (zT 27) (zI 0)),ae 29 28,eb 30 0 29 true,zG 31 (.gj (zT 30)) 29 true,zG 32 (.bin .leq (zT 31) (zI 32)) 29 true,lK 33 29 32,ae 34 33,eb 35 0 34 true,zH 36 53 [(zT 35)] 34 true,zG 37 (.un .not (zT 36)) 34 true,lK 38 34 37,ae 2 38] .ret))),[.tmp 2]⟩
theorem ale:bH Tryz.prog G Tryz.f85=some mq:=by kernel_rfl
abbrev rV:Nat:=86
def jf:ar:=zL (zJ [ae 12 7,ae 13 2,oT 14 12 13] (zX 14 0)) (zL (.block 1 (zJ [ae 17 0,ae 18 1,ae 19 7,eJ 20 1 18 19,aJ 21 20,eJ 22 5 17 21,aA 23 0 22,aJ 24 23,jn 25 102 24,w7 26 25] (zU 26 (zJ [iz 6 false] .ret)))) (zR [ae 15 7,mI 16 15 1,ae 7 16]))
def jP:aC:=⟨27,(zJ [iz 6 false] (zL (zJ [ae 8 1,iP 9 8,ae 10 2,oT 11 9 10] (zU 11 (zJ [iz 6 false] .ret))) (zL (zJ [eG 7 0] (.block 0 (.loop jf))) (zJ [iz 6 true] .ret)))),[.tmp 6]⟩
theorem ald:bH Tryz.prog G Tryz.f86=some jP:=by kernel_rfl
abbrev pg:Nat:=87
def lq:ar:=zL (zJ [ae 10 9,ae 11 1,iP 12 11,oT 13 10 12] (zX 13 0)) (zL (.block 1 (zJ [ae 16 0,ae 17 1,ae 18 9,eJ 19 1 17 18,aJ 20 19,eJ 21 5 16 20,aA 22 0 21,aJ 23 22,ae 24 2,zV 25 (.eq true (.bG 1) (zT 23) (zT 24))] (zU 25 (zJ [iz 8 false] .ret)))) (zR [ae 14 9,mI 15 14 1,ae 9 15]))
def nQ:aC:=⟨30,(zJ [iz 8 false] (zL (zJ [eG 9 0] (.block 0 (.loop lq))) (zJ [ae 26 1,iP 27 26,ae 28 3,zV 29 (.bin .leq (zT 27) (zT 28)),ae 8 29] .ret))),[.tmp 8]⟩
theorem alc:bH Tryz.prog G Tryz.f87=some nQ:=by kernel_rfl
abbrev Nn:Nat:=88
def mg:aC:=⟨9,(zJ [iz 2 false] (zJ [ae 3 0,zV 4 (.bin .geq (zT 3) (zI 12)),ae 5 4,eb 6 0 5 true,zG 7 (.bin .leq (zT 6) (zI 22)) 5 true,lK 8 5 7,ae 2 8] .ret)),[.tmp 2]⟩
theorem alb:bH Tryz.prog G Tryz.f88=some mg:=by kernel_rfl
abbrev BN:Nat:=89
def fU:aC:=⟨83,(zD [ae 7 0,bP 8 7,aA 9 0 8,aJ 10 9,ae 11 1,eJ 12 5 10 11,aA 13 2 12,aJ 14 13,ae 15 0,ae 16 0,bP 17 16,aA 18 0 17,aJ 19 18,ae 20 1,eJ 21 5 19 20,aA 22 1 21,aJ 23 22,zV 24 (.eZ 1 (zT 23) (zI 0)),aJ 25 24,gX 26 71 15 25,ae 27 0,ae 28 0,bP 29 28,aA 30 0 29,aJ 31 30,ae 32 1,eJ 33 5 31 32,aA 34 1 33,aJ 35 34,zV 36 (.eZ 1 (zT 35) (zI 1)),aJ 37 36,gX 38 71 27 37,ae 4 14,ae 5 26,ae 6 38] [(3,19),(7,19),(24,19),(28,19),(30,19),(3,31),(7,31)] (zJ [ae 39 0,bP 40 39,aA 41 1 40,aA 42 0 41,aJ 43 42,ae 44 1,eJ 45 1 43 44,zN (.store 1 (zT 45) (zI 1))] (zL (zJ [ae 46 4,zV 47 (.bin .leq (zT 46) (zI 8))] (zU 47 (zR [ae 48 0,bP 49 48,aA 50 1 49,aA 51 0 50,aJ 52 51,ae 53 1,eJ 54 1 52 53,zN (.store 1 (zT 54) (zI 2))]))) (zJ [ae 55 4,zV 56 (.bin .leq (zT 55) (zI 2))] (zW 56 (zR [ae 57 0,ae 58 5,Be 59 58 2,ae 60 59,eb 61 6 60 false,zG 62 (.eq true (.bG 1) (zT 61) (zI 2)) 60 false,qP 63 60 62,ae 64 1,zC 65 44 [(zT 57),(zT 63),(zI 11),(zT 64)]]) (zJ [ae 66 4,zV 67 (.bin .leq (zT 66) (zI 4))] (zW 67 (zR [ae 68 0,ae 69 5,ae 70 6,zV 71 (.eq true (.bG 1) (zT 69) (zT 70)),ae 72 1,zC 73 44 [(zT 68),(zT 71),(zI 11),(zT 72)]]) (zR [ae 74 0,ae 75 5,Be 76 75 1,ae 77 76,eb 78 6 77 false,zG 79 (.eq true (.bG 1) (zT 78) (zI 1)) 77 false,qP 80 77 79,ae 81 1,zC 82 44 [(zT 74),(zT 80),(zI 11),(zT 81)]])))))))),[]⟩
theorem ala:bH Tryz.prog G Tryz.f89=some fU:=by kernel_rfl
abbrev BO:Nat:=90
def fV:aC:=⟨33,(zJ [ae 8 0,ae 9 0,ae 10 0,bP 11 10,aA 12 0 11,aJ 13 12,ae 14 1,eJ 15 5 13 14,aA 16 1 15,aJ 17 16,zV 18 (.eZ 1 (zT 17) (zI 0)),aJ 19 18,gX 20 71 9 19,ae 21 2,zV 22 (.eq true (.bG 1) (zT 20) (zT 21)),ae 23 1,zC 24 44 [(zT 8),(zT 22),(zI 11),(zT 23)]] (zR [ae 25 0,bP 26 25,aA 27 1 26,aA 28 0 27,aJ 29 28,ae 30 1,ae 31 3,eJ 32 1 29 30,eN 1 32 31])),[]⟩
theorem ak9:bH Tryz.prog G Tryz.f90=some fV:=by kernel_rfl
abbrev AH:Nat:=91
def eT:ar:=zL (zJ [ae 63 7,aA 64 1 4,aJ 65 64,iP 66 65,oT 67 63 66,ae 68 67,eb 69 0 68 true,zG 70 (.lU (zT 69)) 68 true,ly 71 12 70 68 true,ly 72 0 71 68 true,kU 73 72 68 true,BJ 74 73 0 68 true,lK 75 68 74] (zX 75 0)) (zL (.block 1 (.draw [ae 78 0,ae 79 0,bP 80 79,aA 81 0 80,aJ 82 81,aA 83 1 6,aJ 84 83,ae 85 7,eJ 86 1 84 85,aJ 87 86,eJ 88 5 82 87,aA 89 2 88,aJ 90 89,ae 91 0,aA 92 1 4,aJ 93 92,ae 94 7,eJ 95 1 93 94,aJ 96 95,gX 97 71 91 96,zV 98 (.eq true (.bG 1) (zT 90) (zT 97)),ae 99 1,zC 100 44 [(zT 78),(zT 98),(zI 11),(zT 99)]] [(4,19),(6,19),(9,19),(12,19)])) (zR [ae 76 7,mI 77 76 1,ae 7 77]))
def fC:aC:=⟨110,(zJ [ae 8 0,bP 9 8,aA 10 0 9,aJ 11 10,ae 12 1,eJ 13 5 11 12,oR 14 5 13,zV 4 (.alloc 59 [(.int .i64 0),.aa,(.int .i64 0),(.str []),(.int .i64 0)]),eN 5 4 14] (zJ [ae 15 0,aA 16 3 4,aJ 17 16,gX 18 45 15 17,ae 5 18] (zJ [ae 19 0,ae 20 5,zV 21 (.bin .lss (zT 20) (zI 0)),ae 22 1,zC 23 44 [(zT 19),(zT 21),(zI 9),(zT 22)]] (zL (zJ [ae 24 0,bP 25 24,aA 26 12 25,aA 27 0 26,aJ 28 27,Be 29 28 0] (zU 29 .ret)) (zJ [ae 30 0,bP 31 30,aA 32 1 31,aA 33 2 32,aJ 34 33,ae 35 1,ae 36 5,eJ 37 1 34 35,eN 1 37 36] (zD [ae 38 0,bP 39 38,aA 40 0 39,aJ 41 40,ae 42 0,bP 43 42,aA 44 1 43,aA 45 3 44,aJ 46 45,ae 47 5,eJ 48 1 46 47,aJ 49 48,eJ 50 5 41 49,oR 51 5 50,zV 6 (.alloc 59 [(.int .i64 0),.aa,(.int .i64 0),(.str []),(.int .i64 0)]),eN 5 6 51] [] (zJ [ae 52 0,aA 53 1 6,aJ 54 53,iP 55 54,CK 56 55 1,aA 57 1 4,aJ 58 57,iP 59 58,zV 60 (.eq true (.bG 1) (zT 56) (zT 59)),ae 61 1,zC 62 44 [(zT 52),(zT 60),(zI 11),(zT 61)]] (zL (zJ [eG 7 0] (.block 0 (.loop eT))) (.draw [ae 101 0,bP 102 101,aA 103 1 102,aA 104 0 103,aJ 105 104,ae 106 1,aA 107 2 6,aJ 108 107,eJ 109 1 105 106,eN 1 109 108] []))))))))),[]⟩
theorem ak8:bH Tryz.prog G Tryz.f91=some fC:=by kernel_rfl
abbrev Nj:Nat:=92
def gy:aC:=⟨55,(zJ [eG 2 0] (zJ [ae 6 0,jn 7 13 6,zV 3 (.alloc 49 [(.int .i64 0),(.str []),(.int .i64 0),(.int .i64 0)]),eN 4 3 7] (zL (zJ [ae 8 0,zC 9 34 [(zT 8),(zS [45])],w7 10 9,ae 11 10,eb 12 0 11 true,zH 13 34 [(zT 12),(zS [33])] 11 true,zG 14 (.un .not (zT 13)) 11 true,lK 15 11 14] (zU 15 (zJ [ae 16 0,jn 17 103 16,ae 2 17] .ret))) (zJ [ae 18 0,bP 19 18,aA 20 1 19,aJ 21 20,mI 22 21 1,bP 23 18,aA 24 1 23,eN 1 24 22] (zJ [ae 25 0,aA 26 3 3,aJ 27 26,gX 28 35 25 27] (zL (zJ [ae 29 0,bP 30 29,aA 31 5 30,aA 32 0 31,aJ 33 32,Be 34 33 0] (zU 34 (zJ [eG 2 (-1)] .ret))) (zJ [ae 35 0,jn 36 92 35,ae 4 36] (zJ [ae 37 0,bP 38 37,aA 39 2 38,aJ 40 39,CK 41 40 1,bP 42 37,aA 43 2 42,eN 1 43 41] (zJ [eG 5 6] (zL (zJ [aA 44 1 3,aJ 45 44,zV 46 (.eq false (.bG 2) (zT 45) (zS [33]))] (zU 46 (zR [eG 5 7]))) (zJ [ae 47 0,ae 48 5,ae 49 4,zV 50 (.aG 3 1 1 [(.int .i64 0)] [(0,(zT 49))]),aA 51 3 3,aJ 52 51,zV 53 (.build [(.int .i64 0),.aa,(.int .i64 0),(.str []),(.int .i64 0)] [(0,1,(zT 48)),(1,1,(zT 50)),(4,1,(zT 52))]),gX 54 20 47 53,ae 2 54] .ret))))))))))),[.tmp 2]⟩
theorem ak7:bH Tryz.prog G Tryz.f92=some gy:=by kernel_rfl
abbrev acf:Nat:=93
def nO:aC:=⟨23,(zJ [zV 2 (.tA (.const .aa)),zV 3 (.tA (.const .aa))] (zL (zJ [ae 4 0] (.block 0 (zJ [fG 6 4 1,ae 5 6] (zW 5 (zJ [zV 7 (.aG 9 1 1 [(.str [])] [(0,(zS [124,124]))]),zV 8 (.aG 3 1 1 [(.int .i64 0)] [(0,(zI 1))]),ae 2 7,ae 3 8] .ret) (zJ [fG 10 4 2,ae 9 10] (zW 9 (zJ [zV 11 (.aG 9 1 1 [(.str [])] [(0,(zS [38,38]))]),zV 12 (.aG 3 1 1 [(.int .i64 0)] [(0,(zI 2))]),ae 2 11,ae 3 12] .ret) (zJ [fG 14 4 3,ae 13 14] (zW 13 (zJ [zV 15 (.aG 9 1 6 [(.str [])] [(0,(zS [61,61])),(1,(zS [33,61])),(2,(zS [60])),(3,(zS [60,61])),(4,(zS [62])),(5,(zS [62,61]))]),zV 16 (.aG 3 1 6 [(.int .i64 0)] [(0,(zI 3)),(1,(zI 4)),(2,(zI 5)),(3,(zI 6)),(4,(zI 7)),(5,(zI 8))]),ae 2 15,ae 3 16] .ret) (zJ [fG 18 4 4,ae 17 18] (zU 17 (zJ [zV 19 (.aG 9 1 4 [(.str [])] [(0,(zS [43])),(1,(zS [45])),(2,(zS [43,37])),(3,(zS [45,37]))]),zV 20 (.aG 3 1 4 [(.int .i64 0)] [(0,(zI 9)),(1,(zI 10)),(2,(zI 11)),(3,(zI 12))]),ae 2 19,ae 3 20] .ret))))))))))) (zJ [zV 21 (.aG 9 1 4 [(.str [])] [(0,(zS [42])),(1,(zS [47])),(2,(zS [37])),(3,(zS [42,37]))]),zV 22 (.aG 3 1 4 [(.int .i64 0)] [(0,(zI 13)),(1,(zI 14)),(2,(zI 15)),(3,(zI 16))]),ae 2 21,ae 3 22] .ret))),[.tmp 2,.tmp 3]⟩
theorem ak6:bH Tryz.prog G Tryz.f93=some nO:=by kernel_rfl
abbrev RQ:Nat:=94
def xj:ar:=zL (zJ [ae 6 5,ae 7 1,iP 8 7,oT 9 6 8] (zX 9 0)) (zL (.block 1 (zJ [ae 12 0,ae 13 1,ae 14 5,eJ 15 1 13 14,aJ 16 15,gX 17 34 12 16] (zU 17 (zJ [ae 18 5,ae 4 18] .ret)))) (zR [ae 10 5,mI 11 10 1,ae 5 11]))
def iU:aC:=⟨19,(zJ [eG 4 0] (zL (zJ [eG 5 0] (.block 0 (.loop xj))) (zJ [eG 4 (-1)] .ret))),[.tmp 4]⟩
theorem ak5:bH Tryz.prog G Tryz.f94=some iU:=by kernel_rfl
abbrev vI:Nat:=95
def eE:aC:=⟨58,(zJ [zV 2 (.alloc 123 [(.str []),(.bool false),(.int .i64 0),(.int .i64 0),(.int .i64 0),(.int .i64 0),.aa,(.bool false)]),iz 3 false] (zJ [zV 5 (.build [(.str []),(.bool false),(.int .i64 0),(.int .i64 0),(.int .i64 0),(.int .i64 0),.aa,(.bool false)] [(3,1,(zI 9223372036854775807))]),zV 6 (.build [(.str []),(.bool false),(.int .i64 0),(.int .i64 0),(.int .i64 0),(.int .i64 0),.aa,(.bool false)] [(3,1,(zI 1))]),zV 7 (.build [(.str []),(.bool false),(.int .i64 0),(.int .i64 0),(.int .i64 0),(.int .i64 0),.aa,(.bool false)] [(0,1,(zS [110,105,108]))]),zV 8 (.build [(.str []),(.bool false),(.int .i64 0),(.int .i64 0),(.int .i64 0),(.int .i64 0),.aa,(.bool false)] [(1,1,(zB true))]),zV 9 (.aG 3 1 2 [(.int .i64 0)] [(0,(zI 0)),(1,(zI 0))]),zV 10 (.build [(.str []),(.bool false),(.int .i64 0),(.int .i64 0),(.int .i64 0),(.int .i64 0),.aa,(.bool false)] [(2,1,(zI 1)),(3,1,(zI 16)),(6,1,(zT 9))]),zV 11 (.aG 3 1 1 [(.int .i64 0)] [(0,(zI 0))]),zV 12 (.build [(.str []),(.bool false),(.int .i64 0),(.int .i64 0),(.int .i64 0),(.int .i64 0),.aa,(.bool false)] [(0,1,(zS [110,101,103])),(6,1,(zT 11))]),zV 13 (.aG 3 1 1 [(.int .i64 0)] [(0,(zI 0))]),zV 14 (.build [(.str []),(.bool false),(.int .i64 0),(.int .i64 0),(.int .i64 0),(.int .i64 0),.aa,(.bool false)] [(0,1,(zS [110,111,116])),(6,1,(zT 13))]),zV 15 (.aG 3 1 2 [(.int .i64 0)] [(0,(zI 0)),(1,(zI 0))]),zV 16 (.build [(.str []),(.bool false),(.int .i64 0),(.int .i64 0),(.int .i64 0),(.int .i64 0),.aa,(.bool false)] [(0,1,(zS [97,116])),(6,1,(zT 15))]),zV 17 (.aG 3 1 1 [(.int .i64 0)] [(0,(zI 0))]),zV 18 (.build [(.str []),(.bool false),(.int .i64 0),(.int .i64 0),(.int .i64 0),(.int .i64 0),.aa,(.bool false)] [(0,1,(zS [108,101,110])),(6,1,(zT 17))]),zV 19 (.aG 3 1 1 [(.int .i64 0)] [(0,(zI 0))]),zV 20 (.build [(.str []),(.bool false),(.int .i64 0),(.int .i64 0),(.int .i64 0),(.int .i64 0),.aa,(.bool false)] [(0,1,(zS [110,101,119])),(6,1,(zT 19))]),zV 21 (.build [(.str []),(.bool false),(.int .i64 0),(.int .i64 0),(.int .i64 0),(.int .i64 0),.aa,(.bool false)] [(0,1,(zS [99,97,108,108])),(1,1,(zB true)),(4,1,(zI 8)),(5,1,(zI 0))]),zV 22 (.aG 3 1 1 [(.int .i64 0)] [(0,(zI 0))]),zV 23 (.build [(.str []),(.bool false),(.int .i64 0),(.int .i64 0),(.int .i64 0),(.int .i64 0),.aa,(.bool false)] [(0,1,(zS [118,97,114])),(1,1,(zB true)),(6,1,(zT 22))]),zV 24 (.aG 3 1 1 [(.int .i64 0)] [(0,(zI 0))]),zV 25 (.build [(.str []),(.bool false),(.int .i64 0),(.int .i64 0),(.int .i64 0),(.int .i64 0),.aa,(.bool false)] [(0,1,(zS [115,101,116])),(1,1,(zB true)),(6,1,(zT 24))]),zV 26 (.aG 3 1 2 [(.int .i64 0)] [(0,(zI 0)),(1,(zI 0))]),zV 27 (.build [(.str []),(.bool false),(.int .i64 0),(.int .i64 0),(.int .i64 0),(.int .i64 0),.aa,(.bool false)] [(0,1,(zS [112,117,116])),(1,1,(zB true)),(6,1,(zT 26))]),zV 28 (.aG 3 1 3 [(.int .i64 0)] [(0,(zI 0)),(1,(zI 2)),(2,(zI 2))]),zV 29 (.build [(.str []),(.bool false),(.int .i64 0),(.int .i64 0),(.int .i64 0),(.int .i64 0),.aa,(.bool false)] [(0,1,(zS [105,102])),(6,1,(zT 28)),(7,1,(zB true))]),zV 30 (.aG 3 1 2 [(.int .i64 0)] [(0,(zI 0)),(1,(zI 2))]),zV 31 (.build [(.str []),(.bool false),(.int .i64 0),(.int .i64 0),(.int .i64 0),(.int .i64 0),.aa,(.bool false)] [(0,1,(zS [119,104,105,108,101])),(6,1,(zT 30))]),zV 32 (.aG 3 1 3 [(.int .i64 0)] [(0,(zI 0)),(1,(zI 0)),(2,(zI 2))]),zV 33 (.build [(.str []),(.bool false),(.int .i64 0),(.int .i64 0),(.int .i64 0),(.int .i64 0),.aa,(.bool false)] [(0,1,(zS [102,111,114])),(1,1,(zB true)),(6,1,(zT 32))]),zV 34 (.build [(.str []),(.bool false),(.int .i64 0),(.int .i64 0),(.int .i64 0),(.int .i64 0),.aa,(.bool false)] [(0,1,(zS [98,114,101,97,107]))]),zV 35 (.build [(.str []),(.bool false),(.int .i64 0),(.int .i64 0),(.int .i64 0),(.int .i64 0),.aa,(.bool false)] [(0,1,(zS [99,111,110,116,105,110,117,101]))]),zV 36 (.aG 3 1 1 [(.int .i64 0)] [(0,(zI 0))]),zV 37 (.build [(.str []),(.bool false),(.int .i64 0),(.int .i64 0),(.int .i64 0),(.int .i64 0),.aa,(.bool false)] [(0,1,(zS [114,101,116,117,114,110])),(6,1,(zT 36))]),zV 38 (.aG 3 1 1 [(.int .i64 0)] [(0,(zI 0))]),zV 39 (.build [(.str []),(.bool false),(.int .i64 0),(.int .i64 0),(.int .i64 0),(.int .i64 0),.aa,(.bool false)] [(0,1,(zS [112,114,105,110,116])),(6,1,(zT 38))]),zV 40 (.aG 3 1 1 [(.int .i64 0)] [(0,(zI 3))]),zV 41 (.build [(.str []),(.bool false),(.int .i64 0),(.int .i64 0),(.int .i64 0),(.int .i64 0),.aa,(.bool false)] [(0,1,(zS [100,111])),(6,1,(zT 40))]),zV 42 (.build [(.str []),(.bool false),(.int .i64 0),(.int .i64 0),(.int .i64 0),(.int .i64 0),.aa,(.bool false)] [(0,1,(zS [98,108,111,99,107])),(4,1,(zI 4611686018427387904)),(5,1,(zI 1))]),zV 43 (.build [(.str []),(.bool false),(.int .i64 0),(.int .i64 0),(.int .i64 0),(.int .i64 0),.aa,(.bool false)] [(1,1,(zB true)),(2,1,(zI 1)),(3,1,(zI 3))]),zV 44 (.aG 3 1 1 [(.int .i64 0)] [(0,(zI 2))]),zV 45 (.build [(.str []),(.bool false),(.int .i64 0),(.int .i64 0),(.int .i64 0),(.int .i64 0),.aa,(.bool false)] [(0,1,(zS [102,110])),(1,1,(zB true)),(2,1,(zI 1)),(3,1,(zI 3)),(4,1,(zI 8)),(5,1,(zI 4)),(6,1,(zT 44))]),zV 46 (.build [(.str []),(.bool false),(.int .i64 0),(.int .i64 0),(.int .i64 0),(.int .i64 0),.aa,(.bool false)] [(0,1,(zS [112,114,111,103])),(4,1,(zI 200)),(5,1,(zI 5))]),zV 47 (.build [(.str []),(.bool false),(.int .i64 0),(.int .i64 0),(.int .i64 0),(.int .i64 0),.aa,(.bool false),(.str []),(.bool false),(.int .i64 0),(.int .i64 0),(.int .i64 0),(.int .i64 0),.aa,(.bool false),(.str []),(.bool false),(.int .i64 0),(.int .i64 0),(.int .i64 0),(.int .i64 0),.aa,(.bool false),(.str []),(.bool false),(.int .i64 0),(.int .i64 0),(.int .i64 0),(.int .i64 0),.aa,(.bool false),(.str []),(.bool false),(.int .i64 0),(.int .i64 0),(.int .i64 0),(.int .i64 0),.aa,(.bool false),(.str []),(.bool false),(.int .i64 0),(.int .i64 0),(.int .i64 0),(.int .i64 0),.aa,(.bool false),(.str []),(.bool false),(.int .i64 0),(.int .i64 0),(.int .i64 0),(.int .i64 0),.aa,(.bool false),(.str []),(.bool false),(.int .i64 0),(.int .i64 0),(.int .i64 0),(.int .i64 0),.aa,(.bool false),(.str []),(.bool false),(.int .i64 0),(.int .i64 0),(.int .i64 0),(.int .i64 0),.aa,(.bool false),(.str []),(.bool false),(.int .i64 0),(.int .i64 0),(.int .i64 0),(.int .i64 0),.aa,(.bool false),(.str []),(.bool false),(.int .i64 0),(.int .i64 0),(.int .i64 0),(.int .i64 0),.aa,(.bool false),(.str []),(.bool false),(.int .i64 0),(.int .i64 0),(.int .i64 0),(.int .i64 0),.aa,(.bool false),(.str []),(.bool false),(.int .i64 0),(.int .i64 0),(.int .i64 0),(.int .i64 0),.aa,(.bool false),(.str []),(.bool false),(.int .i64 0),(.int .i64 0),(.int .i64 0),(.int .i64 0),.aa,(.bool false),(.str []),(.bool false),(.int .i64 0),(.int .i64 0),(.int .i64 0),(.int .i64 0),.aa,(.bool false),(.str []),(.bool false),(.int .i64 0),(.int .i64 0),(.int .i64 0),(.int .i64 0),.aa,(.bool false),(.str []),(.bool false),(.int .i64 0),(.int .i64 0),(.int .i64 0),(.int .i64 0),.aa,(.bool false),(.str []),(.bool false),(.int .i64 0),(.int .i64 0),(.int .i64 0),(.int .i64 0),.aa,(.bool false),(.str []),(.bool false),(.int .i64 0),(.int .i64 0),(.int .i64 0),(.int .i64 0),.aa,(.bool false),(.str []),(.bool false),(.int .i64 0),(.int .i64 0),(.int .i64 0),(.int .i64 0),.aa,(.bool false),(.str []),(.bool false),(.int .i64 0),(.int .i64 0),(.int .i64 0),(.int .i64 0),.aa,(.bool false),(.str []),(.bool false),(.int .i64 0),(.int .i64 0),(.int .i64 0),(.int .i64 0),.aa,(.bool false),(.str []),(.bool false),(.int .i64 0),(.int .i64 0),(.int .i64 0),(.int .i64 0),.aa,(.bool false),(.str []),(.bool false),(.int .i64 0),(.int .i64 0),(.int .i64 0),(.int .i64 0),.aa,(.bool false),(.str []),(.bool false),(.int .i64 0),(.int .i64 0),(.int .i64 0),(.int .i64 0),.aa,(.bool false),(.str []),(.bool false),(.int .i64 0),(.int .i64 0),(.int .i64 0),(.int .i64 0),.aa,(.bool false),(.str []),(.bool false),(.int .i64 0),(.int .i64 0),(.int .i64 0),(.int .i64 0),.aa,(.bool false)] [(8,8,(zT 5)),(16,8,(zT 6)),(24,8,(zT 7)),(32,8,(zT 8)),(40,8,(zT 10)),(48,8,(zT 12)),(56,8,(zT 14)),(64,8,(zT 16)),(72,8,(zT 18)),(80,8,(zT 20)),(88,8,(zT 21)),(96,8,(zT 23)),(104,8,(zT 25)),(112,8,(zT 27)),(120,8,(zT 29)),(128,8,(zT 31)),(136,8,(zT 33)),(144,8,(zT 34)),(152,8,(zT 35)),(160,8,(zT 37)),(168,8,(zT 39)),(176,8,(zT 41)),(184,8,(zT 42)),(192,8,(zT 43)),(200,8,(zT 45)),(208,8,(zT 46))]),zV 4 (.alloc 129 [(.str []),(.bool false),(.int .i64 0),(.int .i64 0),(.int .i64 0),(.int .i64 0),.aa,(.bool false),(.str []),(.bool false),(.int .i64 0),(.int .i64 0),(.int .i64 0),(.int .i64 0),.aa,(.bool false),(.str []),(.bool false),(.int .i64 0),(.int .i64 0),(.int .i64 0),(.int .i64 0),.aa,(.bool false),(.str []),(.bool false),(.int .i64 0),(.int .i64 0),(.int .i64 0),(.int .i64 0),.aa,(.bool false),(.str []),(.bool false),(.int .i64 0),(.int .i64 0),(.int .i64 0),(.int .i64 0),.aa,(.bool false),(.str []),(.bool false),(.int .i64 0),(.int .i64 0),(.int .i64 0),(.int .i64 0),.aa,(.bool false),(.str []),(.bool false),(.int .i64 0),(.int .i64 0),(.int .i64 0),(.int .i64 0),.aa,(.bool false),(.str []),(.bool false),(.int .i64 0),(.int .i64 0),(.int .i64 0),(.int .i64 0),.aa,(.bool false),(.str []),(.bool false),(.int .i64 0),(.int .i64 0),(.int .i64 0),(.int .i64 0),.aa,(.bool false),(.str []),(.bool false),(.int .i64 0),(.int .i64 0),(.int .i64 0),(.int .i64 0),.aa,(.bool false),(.str []),(.bool false),(.int .i64 0),(.int .i64 0),(.int .i64 0),(.int .i64 0),.aa,(.bool false),(.str []),(.bool false),(.int .i64 0),(.int .i64 0),(.int .i64 0),(.int .i64 0),.aa,(.bool false),(.str []),(.bool false),(.int .i64 0),(.int .i64 0),(.int .i64 0),(.int .i64 0),.aa,(.bool false),(.str []),(.bool false),(.int .i64 0),(.int .i64 0),(.int .i64 0),(.int .i64 0),.aa,(.bool false),(.str []),(.bool false),(.int .i64 0),(.int .i64 0),(.int .i64 0),(.int .i64 0),.aa,(.bool false),(.str []),(.bool false),(.int .i64 0),(.int .i64 0),(.int .i64 0),(.int .i64 0),.aa,(.bool false),(.str []),(.bool false),(.int .i64 0),(.int .i64 0),(.int .i64 0),(.int .i64 0),.aa,(.bool false),(.str []),(.bool false),(.int .i64 0),(.int .i64 0),(.int .i64 0),(.int .i64 0),.aa,(.bool false),(.str []),(.bool false),(.int .i64 0),(.int .i64 0),(.int .i64 0),(.int .i64 0),.aa,(.bool false),(.str []),(.bool false),(.int .i64 0),(.int .i64 0),(.int .i64 0),(.int .i64 0),.aa,(.bool false),(.str []),(.bool false),(.int .i64 0),(.int .i64 0),(.int .i64 0),(.int .i64 0),.aa,(.bool false),(.str []),(.bool false),(.int .i64 0),(.int .i64 0),(.int .i64 0),(.int .i64 0),.aa,(.bool false),(.str []),(.bool false),(.int .i64 0),(.int .i64 0),(.int .i64 0),(.int .i64 0),.aa,(.bool false),(.str []),(.bool false),(.int .i64 0),(.int .i64 0),(.int .i64 0),(.int .i64 0),.aa,(.bool false),(.str []),(.bool false),(.int .i64 0),(.int .i64 0),(.int .i64 0),(.int .i64 0),.aa,(.bool false),(.str []),(.bool false),(.int .i64 0),(.int .i64 0),(.int .i64 0),(.int .i64 0),.aa,(.bool false),(.str []),(.bool false),(.int .i64 0),(.int .i64 0),(.int .i64 0),(.int .i64 0),.aa,(.bool false)]),eN 216 4 47] (zL (zJ [ae 48 0,zV 49 (.bin .lss (zT 48) (zI 1)),ae 50 49,eb 51 0 50 false,zG 52 (.bin .geq (zT 51) (zI 27)) 50 false,qP 53 50 52] (zU 53 (zJ [zV 54 (.build [(.str []),(.bool false),(.int .i64 0),(.int .i64 0),(.int .i64 0),(.int .i64 0),.aa,(.bool false)] []),eN 8 2 54,iz 3 false] .ret))) (zJ [ae 55 0,zV 56 (.oC 27 8 (zT 4) (zT 55)),oR 57 8 56,eN 8 2 57,iz 3 true] .ret)))),[.cell 2 (some 8),.tmp 3]⟩
theorem ak4:bH Tryz.prog G Tryz.f95=some eE:=by kernel_rfl
abbrev JE:Nat:=96
def EH:ar:=zJ [oT 10 9 8] (zL (zX 10 0) (zL (.block 1 (zJ [ae 11 9,eJ 12 1 7 9,aJ 13 12,ae 3 11,ae 4 13] (zJ [ae 14 4,zV 15 (.bin .or (zT 14) (.const (.int .u8 32))),zV 16 (.bin .geq (zT 15) (.const (.int .u8 97))),ae 17 16,eb 18 4 17 true,zG 19 (.bin .or (zT 18) (.const (.int .u8 32))) 17 true,zG 20 (.bin .leq (zT 19) (.const (.int .u8 122))) 17 true,lK 21 17 20,ae 22 21,eb 23 4 22 false,zG 24 (.eq false (.bG 1) (zT 23) (.const (.int .u8 95))) 22 false,qP 25 22 24,ae 5 25] (zJ [ae 26 5,w7 27 26,ae 28 27,eb 29 3 28 true,BJ 30 29 0 28 true,eb 31 30 28 true,eb 32 4 31 false,zG 33 (.bin .lss (zT 32) (.const (.int .u8 48))) 31 false,zG 34 (.pick (zT 31) (zB true) (zT 33)) 28 true,eb 35 34 28 true,eb 36 4 35 false,zG 37 (.bin .gtr (zT 36) (.const (.int .u8 57))) 35 false,zG 38 (.pick (zT 35) (zB true) (zT 37)) 28 true,lK 39 28 38] (zU 39 (zJ [iz 2 false] .ret)))))) (zR [mI 40 9 1,ae 9 40])))
def qc:aC:=⟨54,(zJ [iz 2 false] (zL (zJ [ae 6 0,zV 7 (.conv (.bytes 5) (zT 6)),iP 8 7,eG 9 0] (.block 0 (.loop EH))) (zJ [ae 41 0,zV 42 (.eq true (.bG 2) (zT 41) (zS [])),ae 43 42,eb 44 0 43 true,zG 45 (.gj (zT 44)) 43 true,zG 46 (.bin .leq (zT 45) (zI 32)) 43 true,lK 47 43 46,ae 48 47,zG 49 (.load none (.const (.ptr 0 0))) 48 true,eb 50 0 48 true,zH 51 104 [(zT 49),(zT 50)] 48 true,zG 52 (.un .not (zT 51)) 48 true,lK 53 48 52,ae 2 53] .ret))),[.tmp 2]⟩
theorem ak3:bH Tryz.prog G Tryz.f96=some qc:=by kernel_rfl
abbrev RO:Nat:=97
def iS:aC:=⟨36,(zJ [iz 4 false] (zL (zJ [ae 5 1] (.block 0 (zJ [fG 7 5 0,ae 6 7] (zW 6 (zJ [ae 8 0,zV 9 (.bin .geq (zT 8) (zI 1)),ae 10 9,eb 11 0 10 true,zG 12 (.bin .leq (zT 11) (zI 11)) 10 true,lK 13 10 12,ae 4 13] .ret) (zJ [fG 15 5 1,ae 14 15] (zW 14 (zJ [ae 16 0,zV 17 (.bin .geq (zT 16) (zI 12)),ae 18 17,eb 19 0 18 true,zG 20 (.bin .leq (zT 19) (zI 22)) 18 true,lK 21 18 20,ae 4 21] .ret) (zJ [fG 23 5 2,ae 22 23] (zW 22 (zJ [ae 24 0,fG 25 24 23,ae 4 25] .ret) (zJ [fG 27 5 3,ae 26 27] (zW 26 (zJ [ae 28 0,fG 29 28 11,ae 4 29] .ret) (zJ [fG 31 5 4,ae 30 31] (zU 30 (zJ [ae 32 0,fG 33 32 24,ae 4 33] .ret))))))))))))) (zJ [ae 34 0,fG 35 34 25,ae 4 35] .ret))),[.tmp 4]⟩
theorem ak2:bH Tryz.prog G Tryz.f97=some iS:=by kernel_rfl
end
section
abbrev w9:Nat:=98
def cX:ar:=zJ [oT 9 8 7] (zL (zX 9 0) (zL (.block 1 (zJ [ae 10 8,ae 5 10] (zJ [ae 11 1,ae 12 0,ae 13 5,eJ 14 1 12 13,aJ 15 14,zV 16 (.eq false (.bG 0) (zT 11) (zT 15))] (zU 16 (zJ [ae 17 5,ae 4 17] .ret))))) (zR [mI 18 8 1,ae 8 18])))
def ef:aC:=⟨19,(zJ [eG 4 0] (zL (zJ [ae 6 0,iP 7 6,eG 8 0] (.block 0 (.loop cX))) (zJ [eG 4 (-1)] .ret))),[.tmp 4]⟩
theorem ak1:bH Tryz.prog G Tryz.f98=some ef:=by kernel_rfl
abbrev pO:Nat:=99
def dP:aC:=⟨90,(zJ [eG 4 0] (zJ [ae 9 0,bP 10 9,aA 11 0 10,aJ 12 11,ae 13 1,eJ 14 5 12 13,oR 15 5 14,zV 5 (.alloc 59 [(.int .i64 0),.aa,(.int .i64 0),(.str []),(.int .i64 0)]),eN 5 5 15] (zJ [ae 16 0,aA 17 1 5,aJ 18 17,gX 19 81 16 18,ae 6 19] (zL (zJ [ae 20 0,jn 21 23 20,w7 22 21] (zU 22 (zJ [eG 4 0] .ret))) (zJ [eG 7 1,iz 8 true] (zL (zJ [aA 23 0 5,aJ 24 23] (.block 0 (zJ [fG 26 24 2,ae 25 26] (zW 25 (zR [eG 7 2]) (zJ [fG 28 24 3,ae 27 28] (zW 27 (zR [eG 7 3]) (zJ [fG 30 24 4,ae 29 30] (zW 29 (zR [ae 31 0,ae 32 1,gX 33 100 31 32,ae 7 33]) (zJ [fG 35 24 5,ae 34 35] (zW 34 (zR [aA 37 2 5,aJ 38 37,ae 39 6,gX 40 105 38 39,ae 36 40,pB 41 36 0,pB 42 36 1,ae 7 41,ae 8 42]) (zJ [fG 44 24 6,ae 43 44] (zW 43 (zR [ae 45 6,zV 46 (.aG 3 1 1 [(.int .i64 0)] [(0,(zI 1))]),gX 47 101 45 46,ae 8 47]) (zJ [fG 49 24 7,ae 48 49] (zW 48 (zR [ae 50 6,zV 51 (.aG 3 1 1 [(.int .i64 0)] [(0,(zI 2))]),gX 52 101 50 51,eG 7 2,ae 8 52]) (zJ [fG 54 24 8,ae 53 54] (zW 53 (zR [ae 55 6,zV 56 (.aG 3 1 2 [(.int .i64 0)] [(0,(zI 3)),(1,(zI 1))]),gX 57 101 55 56,ae 8 57]) (zJ [fG 59 24 9,ae 58 59] (zW 58 (zR [ae 60 6,zV 61 (.aG 3 1 1 [(.int .i64 0)] [(0,(zI 3))]),gX 62 101 60 61,ae 8 62]) (zJ [fG 64 24 10,ae 63 64] (zW 63 (zR [ae 65 6,zV 66 (.aG 3 1 1 [(.int .i64 0)] [(0,(zI 1))]),gX 67 101 65 66,eG 7 3,ae 8 67]) (zJ [fG 69 24 11,ae 68 69] (zU 68 (zR [ae 71 0,ae 72 1,ae 73 6,Yq 74 106 71 72 73,ae 70 74,pB 75 70 0,pB 76 70 1,ae 7 75,ae 8 76]))))))))))))))))))))))) (zJ [ae 77 0,ae 78 8,oR 79 5 5,zC 80 38 [(zT 77),(zT 78),(zI 11),(zT 79)]] (zJ [ae 81 0,bP 82 81,aA 83 1 82,aA 84 0 83,aJ 85 84,ae 86 1,ae 87 7,eJ 88 1 85 86,eN 1 88 87] (zJ [ae 89 7,ae 4 89] .ret))))))))),[.tmp 4]⟩
theorem ak0:bH Tryz.prog G Tryz.f99=some dP:=by kernel_rfl
abbrev pN:Nat:=100
def cD:aC:=⟨44,(zJ [eG 4 0] (zD [ae 9 0,bP 10 9,aA 11 7 10,aJ 12 11,ae 13 0,bP 14 13,aA 15 0 14,aJ 16 15,ae 17 1,eJ 18 5 16 17,aA 19 3 18,aJ 20 19,gX 21 107 12 20,ae 8 21,pB 22 8 0,pB 23 8 1,pB 24 8 2,ae 5 22,ae 6 23,ae 7 24] [] (zL (zJ [ae 25 0,ae 26 7,ae 27 0,bP 28 27,aA 29 0 28,aJ 30 29,ae 31 1,eJ 32 5 30 31,oR 33 5 32,zC 34 38 [(zT 25),(zT 26),(zI 9),(zT 33)]] (zU 34 (zR [ae 35 0,bP 36 35,aA 37 1 36,aA 38 1 37,aJ 39 38,ae 40 1,ae 41 5,eJ 42 1 39 40,eN 1 42 41]))) (zJ [ae 43 6,ae 4 43] .ret)))),[.tmp 4]⟩
theorem agt:bH Tryz.prog G Tryz.f100=some cD:=by kernel_rfl
abbrev dx:Nat:=101
def kT:aC:=⟨8,(zJ [iz 4 false] (zJ [ae 5 0,ae 6 1,gX 7 108 5 6,ae 4 7] .ret)),[.tmp 4]⟩
theorem ags:bH Tryz.prog G Tryz.f101=some kT:=by kernel_rfl
abbrev Np:Nat:=102
def mh:aC:=⟨9,(zJ [iz 2 false] (zJ [ae 3 0,zV 4 (.bin .geq (zT 3) (zI 1)),ae 5 4,eb 6 0 5 true,zG 7 (.bin .leq (zT 6) (zI 11)) 5 true,lK 8 5 7,ae 2 8] .ret)),[.tmp 2]⟩
theorem agr:bH Tryz.prog G Tryz.f102=some mh:=by kernel_rfl
abbrev JF:Nat:=103
def tZ:ar:=zL (zJ [ae 8 0,zC 9 34 [(zT 8),(zS [91])]] (zX 9 0)) (.block 1 (zJ [ae 10 0,jn 11 13 10,zV 12 (.CC none 3 (zT 11)),ae 4 12] (zJ [ae 13 0,jn 14 57 13,ae 5 14] (zR [ae 15 0,ae 16 3,ae 17 5,zV 18 (.aG 3 1 2 [(.int .i64 0)] [(0,(zT 16)),(1,(zT 17))]),ae 19 4,zV 20 (.build [(.int .i64 0),.aa,(.int .i64 0),(.str []),(.int .i64 0)] [(0,1,(zI 8)),(1,1,(zT 18)),(4,1,(zT 19))]),gX 21 20 15 20,ae 3 21]))))
def fE:aC:=⟨23,(zJ [eG 2 0] (zJ [ae 6 0,jn 7 109 6,ae 3 7] (zL (.block 0 (.loop tZ)) (zJ [ae 22 3,ae 2 22] .ret)))),[.tmp 2]⟩
theorem agq:bH Tryz.prog G Tryz.f103=some fE:=by kernel_rfl
abbrev sE:Nat:=104
def cB:aC:=⟨9,(zJ [iz 4 false] (zJ [ae 5 0,ae 6 1,gX 7 110 5 6,zV 8 (.bin .geq (zT 7) (zI 0)),ae 4 8] .ret)),[.tmp 4]⟩
theorem agp:bH Tryz.prog G Tryz.f104=some cB:=by kernel_rfl
abbrev vO:Nat:=105
def dF:aC:=⟨35,(zJ [eG 4 0,iz 5 false] (zL (zJ [ae 6 0] (.block 0 (zL (.block 4 (.block 3 (zL (.block 2 (zL (.block 1 (zL (zL (zL (zJ [fG 8 6 1,ae 7 8] (zW 7 .skip (zR [fG 9 6 2,ae 7 9]))) (zU 7 (.exit 1))) (zL (zL (zJ [fG 11 6 3,ae 10 11] (zW 10 .skip (zR [fG 12 6 4,ae 10 12]))) (zU 10 (.exit 2))) (zL (zL (zJ [fG 14 6 5,ae 13 14] (zW 13 .skip (zR [fG 15 6 6,ae 13 15]))) (zU 13 (.exit 3))) (zL (zJ [fG 17 6 7,ae 16 17] (zW 16 .skip (zR [fG 18 6 8,ae 16 18]))) (zU 16 (.exit 4)))))) (.exit 0))) (zL (zJ [ae 19 1,zV 20 (.aG 3 1 2 [(.int .i64 0)] [(0,(zI 2)),(1,(zI 2))]),gX 21 101 19 20,eG 4 2,ae 5 21] .ret) (.exit 0)))) (zL (zD [ae 22 1,zV 23 (.eZ 1 (zT 22) (zI 0)),aJ 24 23,ae 25 1,zV 26 (.eZ 1 (zT 25) (zI 1)),aJ 27 26,zV 28 (.eq false (.bG 1) (zT 24) (zT 27)),eG 4 2,ae 5 28] [] .ret) (.exit 0))))) (zL (zJ [ae 29 1,zV 30 (.aG 3 1 2 [(.int .i64 0)] [(0,(zI 1)),(1,(zI 1))]),gX 31 101 29 30,eG 4 2,ae 5 31] .ret) (.exit 0))))) (zJ [ae 32 1,zV 33 (.aG 3 1 2 [(.int .i64 0)] [(0,(zI 1)),(1,(zI 1))]),gX 34 101 32 33,eG 4 1,ae 5 34] .ret))),[.tmp 4,.tmp 5]⟩
theorem ago:bH Tryz.prog G Tryz.f105=some dF:=by kernel_rfl
abbrev vN:Nat:=106
def eD:ar:=zJ [oT 65 64 63] (zL (zX 65 0) (zL (.block 1 (zJ [eJ 66 1 62 64,aJ 67 66,ae 13 67] (zR [ae 68 11,aJ 69 3,bP 70 69,aA 71 0 70,aJ 72 71,ae 73 13,eJ 74 5 72 73,aA 75 2 74,aJ 76 75,zV 77 (.aG 3 1 1 [(.int .i64 0)] [(0,(zT 76))]),yz 78 3 1 8 68 77,ae 11 78]))) (zR [mI 79 64 1,ae 64 79])))
def dQ:aC:=⟨85,(zJ [zV 3 (.box 60 (zT 0)),eG 6 0,iz 7 false] (zJ [aJ 14 3,bP 15 14,aA 16 0 15,aJ 17 16,ae 18 1,eJ 19 5 17 18,oR 20 5 19,zV 8 (.alloc 59 [(.int .i64 0),.aa,(.int .i64 0),(.str []),(.int .i64 0)]),eN 5 8 20] (zJ [aJ 21 3,bP 22 21,aA 23 1 22,aA 24 3 23,aJ 25 24,zV 26 (.AJ 112 [] [(zT 3),(zT 8)]),gX 27 111 25 26,ae 9 27] (zL (zJ [aJ 28 3,ae 29 9,zV 30 (.bin .geq (zT 29) (zI 0)),oR 31 5 8,zC 32 38 [(zT 28),(zT 30),(zI 9),(zT 31)],w7 33 32] (zU 33 (zJ [eG 6 0,iz 7 false] .ret))) (zD [aJ 34 3,bP 35 34,aA 36 0 35,aJ 37 36,aJ 38 3,bP 39 38,aA 40 1 39,aA 41 3 40,aJ 42 41,ae 43 9,eJ 44 1 42 43,aJ 45 44,eJ 46 5 37 45,oR 47 5 46,zV 10 (.alloc 59 [(.int .i64 0),.aa,(.int .i64 0),(.str []),(.int .i64 0)]),eN 5 10 47] [] (zJ [aJ 48 3,bP 49 48,aA 50 1 49,aA 51 2 50,aJ 52 51,ae 53 1,ae 54 9,eJ 55 1 52 53,eN 1 55 54] (zJ [zV 11 (.tA (.const .aa))] (zL (zJ [aA 56 1 10,aJ 57 56,aA 58 1 10,aJ 59 58,iP 60 59,CK 61 60 1,zV 62 (.pE 1 (zT 57) none (some (zT 61)) none),iP 63 62,eG 64 0] (.block 0 (.loop eD))) (zD [aA 80 2 10,aJ 81 80,ae 82 2,ae 83 11,gX 84 101 82 83,ae 6 81,ae 7 84] [(1,4)] .ret))))))))),[.tmp 6,.tmp 7]⟩
theorem agn:bH Tryz.prog G Tryz.f106=some dQ:=by kernel_rfl
abbrev kj:Nat:=107
def bh:aC:=⟨20,(zJ [eG 4 0,eG 5 0,iz 6 false] (zJ [ae 10 0,ae 11 1,gX 12 79 10 11,ae 9 12,pB 13 9 0,pB 14 9 1,zV 7 (.alloc 109 [(.int .i64 0),(.int .i64 0),(.int .i64 0)]),eN 3 7 13,ae 8 14] (zD [aA 15 0 7,aJ 16 15,aA 17 1 7,aJ 18 17,ae 19 8,ae 4 16,ae 5 18,ae 6 19] [] .ret))),[.tmp 4,.tmp 5,.tmp 6]⟩
theorem agm:bH Tryz.prog G Tryz.f107=some bh:=by kernel_rfl
abbrev qY:Nat:=108
def dA:ar:=zJ [oT 14 13 12] (zL (zX 14 0) (zL (.block 1 (zJ [ae 15 13,ae 5 15] (zD [ae 16 0,ae 17 5,eJ 18 1 16 17,aJ 19 18,ae 20 1,ae 21 5,eJ 22 1 20 21,aJ 23 22,zV 24 (.eq true (.bG 1) (zT 19) (zT 23))] [] (zU 24 (zJ [iz 4 false] .ret))))) (zR [mI 25 13 1,ae 13 25])))
def dV:aC:=⟨26,(zJ [iz 4 false] (zL (zJ [ae 6 0,iP 7 6,ae 8 1,iP 9 8,zV 10 (.eq true (.bG 1) (zT 7) (zT 9))] (zU 10 (zJ [iz 4 false] .ret))) (zL (zJ [ae 11 0,iP 12 11,eG 13 0] (.block 0 (.loop dA))) (zJ [iz 4 true] .ret)))),[.tmp 4]⟩
theorem agl:bH Tryz.prog G Tryz.f108=some dV:=by kernel_rfl
abbrev Nk:Nat:=109
def gA:aC:=⟨103,(zJ [eG 2 0] (zJ [ae 6 0,jn 7 13 6,zV 3 (.alloc 49 [(.int .i64 0),(.str []),(.int .i64 0),(.int .i64 0)]),eN 4 3 7] (zL (zJ [ae 8 0,bP 9 8,aA 10 5 9,aA 11 0 10,aJ 12 11,Be 13 12 0] (zU 13 (zJ [eG 2 (-1)] .ret))) (zL (zJ [ae 14 0,zC 15 34 [(zT 14),(zS [40])]] (zU 15 (zJ [ae 16 0,jn 17 113 16,ae 2 17] .ret))) (zL (zJ [aA 18 0 3,aJ 19 18,fG 20 19 2] (zU 20 (zJ [ae 21 0,bP 22 21,aA 23 1 22,aJ 24 23,mI 25 24 1,bP 26 21,aA 27 1 26,eN 1 27 25] (zJ [ae 28 0,aA 29 2 3,aJ 30 29,aA 31 3 3,aJ 32 31,zV 33 (.build [(.int .i64 0),.aa,(.int .i64 0),(.str []),(.int .i64 0)] [(0,1,(zI 1)),(2,1,(zT 30)),(4,1,(zT 32))]),gX 34 20 28 33,ae 2 34] .ret)))) (zL (zJ [aA 35 0 3,aJ 36 35,fG 37 36 1] (zU 37 (zJ [ae 38 0,bP 39 38,aA 40 1 39,aJ 41 40,mI 42 41 1,bP 43 38,aA 44 1 43,eN 1 44 42] (zL (zJ [ae 45 0,zC 46 34 [(zT 45),(zS [40])],w7 47 46] (zU 47 (zJ [ae 48 0,aA 49 1 3,aJ 50 49,aA 51 3 3,aJ 52 51,zV 53 (.build [(.int .i64 0),.aa,(.int .i64 0),(.str []),(.int .i64 0)] [(0,1,(zI 4)),(3,1,(zT 50)),(4,1,(zT 52))]),gX 54 20 48 53,ae 2 54] .ret))) (zJ [ae 55 0,aA 56 1 3,aJ 57 56,aA 58 3 3,aJ 59 58,Yq 60 56 55 57 59,ae 2 60] .ret))))) (zJ [ae 61 0,zV 62 (.aG 9 1 5 [(.str [])] [(0,(zS [102,97,108,115,101])),(1,(zS [116,114,117,101])),(2,(zS [110,105,108])),(3,(zS [108,101,110])),(4,(zS [110,101,119]))]),gX 63 94 61 62,ae 4 63] (zL (zJ [ae 64 4,zV 65 (.bin .lss (zT 64) (zI 0))] (zU 65 (zJ [ae 66 0,aA 67 3 3,aJ 68 67,zC 69 15 [(zT 66),(zI 8),(zT 68)]] (zJ [eG 2 (-1)] .ret)))) (zJ [ae 70 0,bP 71 70,aA 72 1 71,aJ 73 72,mI 74 73 1,bP 75 70,aA 76 1 75,eN 1 76 74] (zL (zJ [ae 77 4,zV 78 (.bin .lss (zT 77) (zI 2))] (zU 78 (zJ [ae 79 0,ae 80 4,aA 81 3 3,aJ 82 81,zV 83 (.build [(.int .i64 0),.aa,(.int .i64 0),(.str []),(.int .i64 0)] [(0,1,(zI 2)),(2,1,(zT 80)),(4,1,(zT 82))]),gX 84 20 79 83,ae 2 84] .ret))) (zL (zJ [ae 85 4,fG 86 85 2] (zU 86 (zJ [ae 87 0,aA 88 3 3,aJ 89 88,zV 90 (.build [(.int .i64 0),.aa,(.int .i64 0),(.str []),(.int .i64 0)] [(0,1,(zI 3)),(4,1,(zT 89))]),gX 91 20 87 90,ae 2 91] .ret))) (zJ [ae 92 0,jn 93 113 92,ae 5 93] (zJ [ae 94 0,ae 95 4,zV 96 (.bin .add (zI 6) (zT 95)),ae 97 5,zV 98 (.aG 3 1 1 [(.int .i64 0)] [(0,(zT 97))]),aA 99 3 3,aJ 100 99,zV 101 (.build [(.int .i64 0),.aa,(.int .i64 0),(.str []),(.int .i64 0)] [(0,1,(zT 96)),(1,1,(zT 98)),(4,1,(zT 100))]),gX 102 20 94 101,ae 2 102] .ret))))))))))))),[.tmp 2]⟩
theorem agk:bH Tryz.prog G Tryz.f109=some gA:=by kernel_rfl
abbrev u6:Nat:=110
def di:ar:=zJ [oT 9 8 7] (zL (zX 9 0) (zL (.block 1 (zJ [ae 10 8,ae 5 10] (zJ [ae 11 1,ae 12 0,ae 13 5,eJ 14 1 12 13,aJ 15 14,zV 16 (.eq false (.bG 2) (zT 11) (zT 15))] (zU 16 (zJ [ae 17 5,ae 4 17] .ret))))) (zR [mI 18 8 1,ae 8 18])))
def dy:aC:=⟨19,(zJ [eG 4 0] (zL (zJ [ae 6 0,iP 7 6,eG 8 0] (.block 0 (.loop di))) (zJ [eG 4 (-1)] .ret))),[.tmp 4]⟩
theorem agj:bH Tryz.prog G Tryz.f110=some dy:=by kernel_rfl
abbrev ur:Nat:=111
def dR:ar:=zJ [oT 9 8 7] (zL (zX 9 0) (zL (.block 1 (zJ [ae 10 8,ae 5 10] (zJ [ae 11 1,ae 12 0,ae 13 5,eJ 14 1 12 13,aJ 15 14,⟨(some 16),(.call (zT 11) [(zT 15)]),none⟩] (zU 16 (zJ [ae 17 5,ae 4 17] .ret))))) (zR [mI 18 8 1,ae 8 18])))
def cY:aC:=⟨19,(zJ [eG 4 0] (zL (zJ [ae 6 0,iP 7 6,eG 8 0] (.block 0 (.loop dR))) (zJ [eG 4 (-1)] .ret))),[.tmp 4]⟩
theorem agi:bH Tryz.prog G Tryz.f111=some cY:=by kernel_rfl
abbrev iC:Nat:=112
def dc:aC:=⟨16,(zJ [iz 4 false] (zD [aJ 5 1,bP 6 5,aA 7 0 6,aJ 8 7,ae 9 0,eJ 10 5 8 9,aA 11 3 10,aJ 12 11,aA 13 3 2,aJ 14 13,zV 15 (.eq false (.bG 2) (zT 12) (zT 14)),ae 4 15] [] .ret)),[.tmp 4]⟩
theorem agh:bH Tryz.prog G Tryz.f112=some dc:=by kernel_rfl
abbrev Nl:Nat:=113
def gB:aC:=⟨37,(zJ [eG 2 0] (zJ [ae 5 0,jn 6 13 5,zV 7 (.CC none 3 (zT 6)),ae 3 7] (zJ [ae 8 0,zC 9 14 [(zT 8),(zS [40])]] (zJ [ae 10 0,ae 11 3,gX 12 35 10 11] (zL (zJ [ae 13 0,bP 14 13,aA 15 5 14,aA 16 0 15,aJ 17 16,Be 18 17 0] (zU 18 (zJ [eG 2 (-1)] .ret))) (zJ [ae 19 0,jn 20 58 19,ae 4 20] (zJ [ae 21 0,zC 22 14 [(zT 21),(zS [41])]] (zJ [ae 23 0,bP 24 23,aA 25 2 24,aJ 26 25,CK 27 26 1,bP 28 23,aA 29 2 28,eN 1 29 27] (zL (zJ [ae 30 0,bP 31 30,aA 32 5 31,aA 33 0 32,aJ 34 33,Be 35 34 0] (zU 35 (zJ [eG 2 (-1)] .ret))) (zJ [ae 36 4,ae 2 36] .ret)))))))))),[.tmp 2]⟩
theorem agf:bH Tryz.prog G Tryz.f113=some gB:=by kernel_rfl
end
section
inductive Bt where
 |leaf
 |node (k:Nat) (e:jm) (l r:Bt)
def Bt.find:Bt->Nat->Option jm
 | .leaf,_=>none
 | .node k e l r,f=>bif f.beq k then some e else bif f.blt k then l.find f else r.find f
def Bt.All(Q:Nat->jm->Prop):Bt->Prop
 | .leaf=>True
 | .node k e l r=>Q k e/\l.All Q/\r.All Q
theorem Bt.CD{Q:Nat->jm->Prop}:∀{t:Bt},t.All Q->∀f e,t.find f=some e->Q f e
 | .leaf,_,f,e,h=>by simp[Bt.find]at h
 | .node k x l r,⟨h0,hl,hr⟩,f,e,h=>by
  simp only[Bt.find]at h;cases hk:f.beq k with
  |true=>
   rw[bf hk];simp only[hk,cond_true,bQ]at h;subst h;exact h0
  |false=>
   simp only[hk,cond_false]at h;cases hb:f.blt k<;>simp only[hb,cond_true,cond_false]at h
   ·exact Bt.CD hr f e h
   ·exact Bt.CD hl f e h
def aku:List EV->Option EV
 |[.int .u64 (.ofNat x),.int .u64 (.ofNat y),.int .u64 (.ofNat c)]=>bif c.ble 1 then some (.tuple [.int .u64 (.ofNat ((x+y+c) % 18446744073709551616)),.int .u64 (.ofNat ((x+y+c)/18446744073709551616))])else none
 |_=>none
def akt:List EV->Option EV
 |[.str s,.int .u8 c]=>some (.int .i64 (Go.Lib.countByte s c.toNat.toUInt8))
 |_=>none
def acR:List EV->Option EV
 |[.str s,.int .u8 c]=>some (.int .i64 (Go.Lib.indexByte s c.toNat.toUInt8))
 |_=>none
def isTrue:Option Fin->Bool
 |some (.ret (.bool true) _)=>true
 |_=>false
theorem Sb{r:Option Fin}(h:isTrue r=true):∃m,r=some (.ret (.bool true) m):=by
 unfold isTrue at h
 split at h
 ·exact⟨_,rfl⟩
 ·cases h
def O0:List EV->Option EV
 |[]=>some (.bool true)
 |_=>none
theorem UE{T:Nat->Option jm}{f:Nat}(hf:T f=some (.pure O0)){m:Mem}:run T f [] m=some (.ret (.bool true) m):=by rw[run_pure hf];rfl
end
section
theorem SW{P:Program}{G:List Nat}{h:Nat}{b0:Option Nat}{F0:aC}(h0:Ly P G h b0 F0):∀g b FD,m5 g [(h,b0,F0)]=some (b,FD)->Ly P G g b FD:=by
 intro g b FD e;simp only[m5]at e;cases hb:h.beq g<;>simp only[hb,cond_true,cond_false,reduceCtorEq,bQ,sY]at e
 obtain⟨rfl,rfl⟩:=e;have:=Nat.eq_of_beq_eq_true hb;subst this;exact h0
end
section
theorem mix:Tryz.prog.follows .mixedOrders=true:=by kernel_rfl
theorem ltG:∀g,G.contains g=true->g<1:=fun g h=>by simp[G]at h;try omega
def tree:Bt:=
 (.node 58 (.go hO) (.node 30 (.go fg) (.node 16 (.go pp) (.node 9 (.go gU) (.node 6 (.go nN) (.node 4 (.go bF) (.node 3 (.go iW) .leaf .leaf) (.node 5 (.go nT) .leaf .leaf)) (.node 8 (.go e9) (.node 7 (.go nU) .leaf .leaf) .leaf)) (.node 13 (.go gF) (.node 11 (.go fF) (.node 10 (.go mr) .leaf .leaf) (.node 12 (.go gM) .leaf .leaf)) (.node 15 (.go hJ) (.node 14 (.go hH) .leaf .leaf) .leaf))) (.node 23 (.go aY) (.node 20 (.go iV) (.node 18 (.go pq) (.node 17 (.go mF) .leaf .leaf) (.node 19 (.go nM) .leaf .leaf)) (.node 22 (.go cq) (.node 21 (.go iH) .leaf .leaf) .leaf)) (.node 27 (.go nL) (.node 25 (.go jQ) (.node 24 (.go cC) .leaf .leaf) (.node 26 (.go eW) .leaf .leaf)) (.node 29 (.go eY) (.node 28 (.go eh) .leaf .leaf) .leaf)))) (.node 44 (.go dL) (.node 37 (.go iI) (.node 34 (.go fN) (.node 32 (.go qO) (.node 31 (.go pu) .leaf .leaf) (.node 33 (.go ia) .leaf .leaf)) (.node 36 (.go po) (.node 35 (.go gD) .leaf .leaf) .leaf)) (.node 41 (.go dC) (.node 39 (.go kO) (.node 38 (.go aT) .leaf .leaf) (.node 40 (.go bL) .leaf .leaf)) (.node 43 (.go kR) (.node 42 (.go c9) .leaf .leaf) .leaf))) (.node 51 (.go mG) (.node 48 (.go kP) (.node 46 (.go ed) (.node 45 (.go gT) .leaf .leaf) (.node 47 (.go aE) .leaf .leaf)) (.node 50 (.go kS) (.node 49 (.go nS) .leaf .leaf) .leaf)) (.node 55 (.go pn) (.node 53 (.go ml) (.node 52 (.go jS) .leaf .leaf) (.node 54 (.go pt) .leaf .leaf)) (.node 57 (.go fQ) (.node 56 (.go ib) .leaf .leaf) .leaf))))) (.node 86 (.go jP) (.node 72 (.go fA) (.node 65 (.go iO) (.node 62 (.GC aR [(63,none,aV)]) (.node 60 (.go br) (.node 59 (.go gS) .leaf .leaf) (.node 61 (.go eg) .leaf .leaf)) (.node 64 (.go bg) (.node 63 (.go aV) .leaf .leaf) .leaf)) (.node 69 (.go mf) (.node 67 (.go bC) (.node 66 (.go nP) .leaf .leaf) (.node 68 (.go jR) .leaf .leaf)) (.node 71 (.go fy) (.node 70 (.go fB) .leaf .leaf) .leaf))) (.node 79 (.go aU) (.node 76 (.go iT) (.node 74 (.go qN) (.node 73 (.go nR) .leaf .leaf) (.node 75 (.go g9) .leaf .leaf)) (.node 78 (.go cZ) (.node 77 (.go lp) .leaf .leaf) .leaf)) (.node 83 (.go bE) (.node 81 (.go dB) (.node 80 (.go dO) .leaf .leaf) (.node 82 (.go aQ) .leaf .leaf)) (.node 85 (.go mq) (.node 84 (.go kQ) .leaf .leaf) .leaf)))) (.node 100 (.go cD) (.node 93 (.go nO) (.node 90 (.go fV) (.node 88 (.go mg) (.node 87 (.go nQ) .leaf .leaf) (.node 89 (.go fU) .leaf .leaf)) (.node 92 (.go gy) (.node 91 (.go fC) .leaf .leaf) .leaf)) (.node 97 (.go iS) (.node 95 (.go eE) (.node 94 (.go iU) .leaf .leaf) (.node 96 (.go qc) .leaf .leaf)) (.node 99 (.go dP) (.node 98 (.go ef) .leaf .leaf) .leaf))) (.node 107 (.go bh) (.node 104 (.go cB) (.node 102 (.go mh) (.node 101 (.go kT) .leaf .leaf) (.node 103 (.go fE) .leaf .leaf)) (.node 106 (.go dQ) (.node 105 (.go dF) .leaf .leaf) .leaf)) (.node 111 (.go cY) (.node 109 (.go gA) (.node 108 (.go dV) .leaf .leaf) (.node 110 (.go dy) .leaf .leaf)) (.node 113 (.go gB) (.node 112 (.go dc) .leaf .leaf) .leaf))))))
def T:Nat->Option jm:=tree.find
theorem okT:∀f e,T f=some e->Qt Tryz.prog G f e:=Bt.CD (t:=tree)
 ⟨⟨_,Tryz.func58,alF⟩,⟨⟨_,Tryz.func30,al7⟩,⟨⟨_,Tryz.func16,aml⟩,⟨⟨_,Tryz.func9,ok9⟩,⟨⟨_,Tryz.func6,ok6⟩,⟨⟨_,Tryz.func4,ok4⟩,⟨⟨_,Tryz.func3,ok3⟩,trivial,trivial⟩,⟨⟨_,Tryz.func5,ok5⟩,trivial,trivial⟩⟩,⟨⟨_,Tryz.func8,ok8⟩,⟨⟨_,Tryz.func7,ok7⟩,trivial,trivial⟩,trivial⟩⟩,⟨⟨_,Tryz.func13,amo⟩,⟨⟨_,Tryz.func11,amq⟩,⟨⟨_,Tryz.func10,amr⟩,trivial,trivial⟩,⟨⟨_,Tryz.func12,amp⟩,trivial,trivial⟩⟩,⟨⟨_,Tryz.func15,amm⟩,⟨⟨_,Tryz.func14,amn⟩,trivial,trivial⟩,trivial⟩⟩⟩,⟨⟨_,Tryz.func23,ame⟩,⟨⟨_,Tryz.func20,amh⟩,⟨⟨_,Tryz.func18,amj⟩,⟨⟨_,Tryz.func17,amk⟩,trivial,trivial⟩,⟨⟨_,Tryz.func19,ami⟩,trivial,trivial⟩⟩,⟨⟨_,Tryz.func22,amf⟩,⟨⟨_,Tryz.func21,amg⟩,trivial,trivial⟩,trivial⟩⟩,⟨⟨_,Tryz.func27,ama⟩,⟨⟨_,Tryz.func25,amc⟩,⟨⟨_,Tryz.func24,amd⟩,trivial,trivial⟩,⟨⟨_,Tryz.func26,amb⟩,trivial,trivial⟩⟩,⟨⟨_,Tryz.func29,al8⟩,⟨⟨_,Tryz.func28,al9⟩,trivial,trivial⟩,trivial⟩⟩⟩⟩,⟨⟨_,Tryz.func44,alT⟩,⟨⟨_,Tryz.func37,al0⟩,⟨⟨_,Tryz.func34,al3⟩,⟨⟨_,Tryz.func32,al5⟩,⟨⟨_,Tryz.func31,al6⟩,trivial,trivial⟩,⟨⟨_,Tryz.func33,al4⟩,trivial,trivial⟩⟩,⟨⟨_,Tryz.func36,al1⟩,⟨⟨_,Tryz.func35,al2⟩,trivial,trivial⟩,trivial⟩⟩,⟨⟨_,Tryz.func41,alW⟩,⟨⟨_,Tryz.func39,alY⟩,⟨⟨_,Tryz.func38,alZ⟩,trivial,trivial⟩,⟨⟨_,Tryz.func40,alX⟩,trivial,trivial⟩⟩,⟨⟨_,Tryz.func43,alU⟩,⟨⟨_,Tryz.func42,alV⟩,trivial,trivial⟩,trivial⟩⟩⟩,⟨⟨_,Tryz.func51,alM⟩,⟨⟨_,Tryz.func48,alP⟩,⟨⟨_,Tryz.func46,alR⟩,⟨⟨_,Tryz.func45,alS⟩,trivial,trivial⟩,⟨⟨_,Tryz.func47,alQ⟩,trivial,trivial⟩⟩,⟨⟨_,Tryz.func50,alN⟩,⟨⟨_,Tryz.func49,alO⟩,trivial,trivial⟩,trivial⟩⟩,⟨⟨_,Tryz.func55,alI⟩,⟨⟨_,Tryz.func53,alK⟩,⟨⟨_,Tryz.func52,alL⟩,trivial,trivial⟩,⟨⟨_,Tryz.func54,alJ⟩,trivial,trivial⟩⟩,⟨⟨_,Tryz.func57,alG⟩,⟨⟨_,Tryz.func56,alH⟩,trivial,trivial⟩,trivial⟩⟩⟩⟩⟩,⟨⟨_,Tryz.func86,ald⟩,⟨⟨_,Tryz.func72,als⟩,⟨⟨_,Tryz.func65,alz⟩,⟨⟨⟨_,Tryz.func62,alB⟩,SW ⟨_,Tryz.func63,age⟩⟩,⟨⟨_,Tryz.func60,alD⟩,⟨⟨_,Tryz.func59,alE⟩,trivial,trivial⟩,⟨⟨_,Tryz.func61,alC⟩,trivial,trivial⟩⟩,⟨⟨_,Tryz.func64,alA⟩,⟨⟨_,Tryz.func63,age⟩,trivial,trivial⟩,trivial⟩⟩,⟨⟨_,Tryz.func69,alv⟩,⟨⟨_,Tryz.func67,alx⟩,⟨⟨_,Tryz.func66,aly⟩,trivial,trivial⟩,⟨⟨_,Tryz.func68,alw⟩,trivial,trivial⟩⟩,⟨⟨_,Tryz.func71,alt⟩,⟨⟨_,Tryz.func70,alu⟩,trivial,trivial⟩,trivial⟩⟩⟩,⟨⟨_,Tryz.func79,alk⟩,⟨⟨_,Tryz.func76,alo⟩,⟨⟨_,Tryz.func74,alq⟩,⟨⟨_,Tryz.func73,alr⟩,trivial,trivial⟩,⟨⟨_,Tryz.func75,alp⟩,trivial,trivial⟩⟩,⟨⟨_,Tryz.func78,alm⟩,⟨⟨_,Tryz.func77,aln⟩,trivial,trivial⟩,trivial⟩⟩,⟨⟨_,Tryz.func83,alg⟩,⟨⟨_,Tryz.func81,ali⟩,⟨⟨_,Tryz.func80,alj⟩,trivial,trivial⟩,⟨⟨_,Tryz.func82,alh⟩,trivial,trivial⟩⟩,⟨⟨_,Tryz.func85,ale⟩,⟨⟨_,Tryz.func84,alf⟩,trivial,trivial⟩,trivial⟩⟩⟩⟩,⟨⟨_,Tryz.func100,agt⟩,⟨⟨_,Tryz.func93,ak6⟩,⟨⟨_,Tryz.func90,ak9⟩,⟨⟨_,Tryz.func88,alb⟩,⟨⟨_,Tryz.func87,alc⟩,trivial,trivial⟩,⟨⟨_,Tryz.func89,ala⟩,trivial,trivial⟩⟩,⟨⟨_,Tryz.func92,ak7⟩,⟨⟨_,Tryz.func91,ak8⟩,trivial,trivial⟩,trivial⟩⟩,⟨⟨_,Tryz.func97,ak2⟩,⟨⟨_,Tryz.func95,ak4⟩,⟨⟨_,Tryz.func94,ak5⟩,trivial,trivial⟩,⟨⟨_,Tryz.func96,ak3⟩,trivial,trivial⟩⟩,⟨⟨_,Tryz.func99,ak0⟩,⟨⟨_,Tryz.func98,ak1⟩,trivial,trivial⟩,trivial⟩⟩⟩,⟨⟨_,Tryz.func107,agm⟩,⟨⟨_,Tryz.func104,agp⟩,⟨⟨_,Tryz.func102,agr⟩,⟨⟨_,Tryz.func101,ags⟩,trivial,trivial⟩,⟨⟨_,Tryz.func103,agq⟩,trivial,trivial⟩⟩,⟨⟨_,Tryz.func106,agn⟩,⟨⟨_,Tryz.func105,ago⟩,trivial,trivial⟩,trivial⟩⟩,⟨⟨_,Tryz.func111,agi⟩,⟨⟨_,Tryz.func109,agk⟩,⟨⟨_,Tryz.func108,agl⟩,trivial,trivial⟩,⟨⟨_,Tryz.func110,agj⟩,trivial,trivial⟩⟩,⟨⟨_,Tryz.func113,agf⟩,⟨⟨_,Tryz.func112,agh⟩,trivial,trivial⟩,trivial⟩⟩⟩⟩⟩⟩
theorem at3:T 3=some (.go iW):=rfl
theorem at4:T 4=some (.go bF):=rfl
theorem at5:T 5=some (.go nT):=rfl
theorem at6:T 6=some (.go nN):=rfl
theorem at7:T 7=some (.go nU):=rfl
theorem at8:T 8=some (.go e9):=rfl
theorem at9:T 9=some (.go gU):=rfl
theorem aqd:T 10=some (.go mr):=rfl
theorem aqc:T 11=some (.go fF):=rfl
theorem aqb:T 12=some (.go gM):=rfl
theorem aqa:T 13=some (.go gF):=rfl
theorem ap9:T 14=some (.go hH):=rfl
theorem ap8:T 15=some (.go hJ):=rfl
theorem ap7:T 16=some (.go pp):=rfl
theorem ap6:T 17=some (.go mF):=rfl
theorem ap5:T 18=some (.go pq):=rfl
theorem ap4:T 19=some (.go nM):=rfl
theorem ap3:T 20=some (.go iV):=rfl
theorem ap2:T 21=some (.go iH):=rfl
theorem ap1:T 22=some (.go cq):=rfl
theorem ap0:T 23=some (.go aY):=rfl
theorem apZ:T 24=some (.go cC):=rfl
theorem apY:T 25=some (.go jQ):=rfl
theorem apX:T 26=some (.go eW):=rfl
theorem apW:T 27=some (.go nL):=rfl
theorem apV:T 28=some (.go eh):=rfl
theorem apU:T 29=some (.go eY):=rfl
theorem apT:T 30=some (.go fg):=rfl
theorem apS:T 31=some (.go pu):=rfl
theorem apR:T 32=some (.go qO):=rfl
theorem apQ:T 33=some (.go ia):=rfl
theorem apP:T 34=some (.go fN):=rfl
theorem apO:T 35=some (.go gD):=rfl
theorem apN:T 36=some (.go po):=rfl
theorem apM:T 37=some (.go iI):=rfl
theorem apL:T 38=some (.go aT):=rfl
theorem apK:T 39=some (.go kO):=rfl
theorem apJ:T 40=some (.go bL):=rfl
theorem apI:T 41=some (.go dC):=rfl
theorem apH:T 42=some (.go c9):=rfl
theorem apG:T 43=some (.go kR):=rfl
theorem apF:T 44=some (.go dL):=rfl
theorem apE:T 45=some (.go gT):=rfl
theorem apD:T 46=some (.go ed):=rfl
theorem apC:T 47=some (.go aE):=rfl
theorem apB:T 48=some (.go kP):=rfl
theorem apA:T 49=some (.go nS):=rfl
theorem apz:T 50=some (.go kS):=rfl
theorem apy:T 51=some (.go mG):=rfl
theorem apx:T 52=some (.go jS):=rfl
theorem apw:T 53=some (.go ml):=rfl
theorem apv:T 54=some (.go pt):=rfl
theorem apu:T 55=some (.go pn):=rfl
theorem apt:T 56=some (.go ib):=rfl
theorem aps:T 57=some (.go fQ):=rfl
theorem apr:T 58=some (.go hO):=rfl
theorem apq:T 59=some (.go gS):=rfl
theorem apo:T 60=some (.go br):=rfl
theorem apn:T 61=some (.go eg):=rfl
theorem apm:T 62=some (.GC aR [(63,none,aV)]):=rfl
theorem apl:T 63=some (.go aV):=rfl
theorem apk:T 64=some (.go bg):=rfl
theorem apj:T 65=some (.go iO):=rfl
theorem api:T 66=some (.go nP):=rfl
theorem aph:T 67=some (.go bC):=rfl
theorem apg:T 68=some (.go jR):=rfl
theorem apf:T 69=some (.go mf):=rfl
theorem ape:T 70=some (.go fB):=rfl
theorem apd:T 71=some (.go fy):=rfl
theorem apc:T 72=some (.go fA):=rfl
theorem apb:T 73=some (.go nR):=rfl
theorem apa:T 74=some (.go qN):=rfl
theorem ao9:T 75=some (.go g9):=rfl
theorem ao8:T 76=some (.go iT):=rfl
theorem ao7:T 77=some (.go lp):=rfl
theorem ao6:T 78=some (.go cZ):=rfl
theorem ao5:T 79=some (.go aU):=rfl
theorem ao4:T 80=some (.go dO):=rfl
theorem ao3:T 81=some (.go dB):=rfl
theorem ao2:T 82=some (.go aQ):=rfl
theorem ao1:T 83=some (.go bE):=rfl
theorem ao0:T 84=some (.go kQ):=rfl
theorem aoZ:T 85=some (.go mq):=rfl
theorem aoY:T 86=some (.go jP):=rfl
theorem aoX:T 87=some (.go nQ):=rfl
theorem aoW:T 88=some (.go mg):=rfl
theorem aoV:T 89=some (.go fU):=rfl
theorem aoU:T 90=some (.go fV):=rfl
theorem aoT:T 91=some (.go fC):=rfl
theorem aoS:T 92=some (.go gy):=rfl
theorem aoR:T 93=some (.go nO):=rfl
theorem aoQ:T 94=some (.go iU):=rfl
theorem aoP:T 95=some (.go eE):=rfl
theorem aoO:T 96=some (.go qc):=rfl
theorem aoN:T 97=some (.go iS):=rfl
theorem aoM:T 98=some (.go ef):=rfl
theorem aoL:T 99=some (.go dP):=rfl
theorem ajh:T 100=some (.go cD):=rfl
theorem ajg:T 101=some (.go kT):=rfl
theorem ajf:T 102=some (.go mh):=rfl
theorem aje:T 103=some (.go fE):=rfl
theorem ajd:T 104=some (.go cB):=rfl
theorem ajc:T 105=some (.go dF):=rfl
theorem ajb:T 106=some (.go dQ):=rfl
theorem aja:T 107=some (.go bh):=rfl
theorem ai9:T 108=some (.go dV):=rfl
theorem ai8:T 109=some (.go gA):=rfl
theorem ai7:T 110=some (.go dy):=rfl
theorem ai6:T 111=some (.go cY):=rfl
theorem ai5:T 112=some (.go dc):=rfl
theorem ai4:T 113=some (.go gB):=rfl
end
section
def abQ(g:List EV->Option EV):Prop:=∀args v,g args=some v->fL args=true/\Flat v=true
def aql:jm->Prop
 | .go F=>FZ F=true
 | .ext g| .pure g=>abQ g
 | .spec _=>False
 | .GC _ _=>False
theorem aD{T:Nat->Option jm}{f:Nat}{F:aC}(he:T f=some (.go F))(h:FZ F=true):js T f (.go F):=⟨F,he,ZD h,(RA h).symm⟩
theorem abk{T:Nat->Option jm}{f:Nat}{F F1:aC}{D D1:List (Nat×Option Nat×aC)}(he:T f=some (.GC F D))(h:nj F=true)(hD:okD D=true)(hs:F1=F.sub)(NH:D1=IY D):js T f (.GC F1 D1):=⟨F,D,he,h,hD,hs,NH⟩
theorem abj{T:Nat->Option jm}{f:Nat}{F F1:aC}(he:T f=some (.go F))(h:nj F=true)(hs:F1=F.sub):js T f (.go F1):=⟨F,he,h,hs⟩
theorem LR{T B:Nat->Option jm}(h:∀f e,B f=some e->js T f e){g:Nat}{e0:jm}(h0:js T g e0):∀f e,up B g e0 f=some e->js T f e:=by
 intro f e he;unfold up at he;cases hb:f.beq g<;>simp only[hb,cond_true,cond_false]at he
 ·exact h f e he
 ·cases he;rw[bf hb];exact h0
theorem qS{T B:Nat->Option jm}(h:∀f e,B f=some e->js T f e){f:Nat}{F1:aC}(hB:B f=some (.go F1)):∀g e,up B f (.spec (kK B F1)) g=some e->js T g e:=by
 obtain⟨F,hT,ez,rfl⟩:=h f _ hB;exact LR h (VK h hT ez)
theorem Qw{T B:Nat->Option jm}(h:∀f e,B f=some e->js T f e){f:Nat}{F1:aC}(hB:B f=some (.go F1)){k:Nat}(hw:isTrue (bc B k f [] fT)=true):js T f (.pure O0):=by
 obtain⟨F,hT,ez,rfl⟩:=h f _ hB;obtain⟨m1,hm⟩:=Sb hw;cases k with
 |zero=>simp[bc]at hm
 |succ k=>
  simp only[bc,hB,kM]at hm;have hb:qt B F.sub []=some (.bool true):=wy hm (by rfl);have hp:=FX h hT ez (g:=fun fw=>match fw with|[]=>some (.bool true)|_=>none) (fun fw V hv=>by
   cases fw with
   |nil=>cases hv;exact hb
   |cons a fw=>cases hv)
  intro θ m m' args aK v hg ha hx;unfold O0 at hx
  split at hx
  ·cases hx;exact hp θ m m' [] aK (.ret (.bool true) m) hg ha (by rfl)
  ·cases hx
def adJ(f:Nat):List Nat->Bool
 |[]=>false
 |a::l=>bif a.beq f then true else adJ f l
end
section
/- balustrade/tree.name -/
def jd:ar:=zJ [oT 10 9 8] (zL (zX 10 0) (zL (.block 1 (zJ [ae 11 9,eJ 12 1 7 9,aJ 13 12,ae 3 11,ae 4 13] (zJ [ae 14 4,zV 15 (.bin .or (zT 14) (.const (.int .u8 32))),zV 16 (.bin .geq (zT 15) (.const (.int .u8 97))),ae 17 16,eb 18 4 17 true,zG 19 (.bin .or (zT 18) (.const (.int .u8 32))) 17 true,zG 20 (.bin .leq (zT 19) (.const (.int .u8 122))) 17 true,lK 21 17 20,ae 22 21,eb 23 4 22 false,zG 24 (.eq false (.bG 1) (zT 23) (.const (.int .u8 95))) 22 false,qP 25 22 24,ae 5 25] (zJ [ae 26 5,w7 27 26,ae 28 27,eb 29 3 28 true,BJ 30 29 0 28 true,eb 31 30 28 true,eb 32 4 31 false,zG 33 (.bin .lss (zT 32) (.const (.int .u8 48))) 31 false,zG 34 (.pick (zT 31) (zB true) (zT 33)) 28 true,eb 35 34 28 true,eb 36 4 35 false,zG 37 (.bin .gtr (zT 36) (.const (.int .u8 57))) 35 false,zG 38 (.pick (zT 35) (zB true) (zT 37)) 28 true,lK 39 28 38] (zU 39 (zJ [iz 2 false] .ret)))))) (zR [mI 40 9 1,ae 9 40])))
def pZ:aC:=⟨54,(zJ [iz 2 false] (zL (zJ [ae 6 0,zV 7 (.conv (.bytes 5) (zT 6)),iP 8 7,eG 9 0] (.block 0 (.loop jd))) (zJ [ae 41 0,zV 42 (.eq true (.bG 2) (zT 41) (zS [])),ae 43 42,eb 44 0 43 true,zG 45 (.gj (zT 44)) 43 true,zG 46 (.bin .leq (zT 45) (zI 32)) 43 true,lK 47 43 46,ae 48 47,zG 49 (.load none (.const (glV L_tree_words))) 48 true,eb 50 0 48 true,zH 51 104 [(zT 49),(zT 50)] 48 true,zG 52 (.un .not (zT 51)) 48 true,lK 53 48 52,ae 2 53] .ret))),[.tmp 2]⟩
theorem af8:pZ=qc.sub:=by kernel_rfl
end
section
def abR:Bt:=
 (.node 58 (.go hO) (.node 30 (.go fg) (.node 16 (.go pp) (.node 9 (.go gU) (.node 6 (.go nN) (.node 4 (.go bF) (.node 3 (.go iW) .leaf .leaf) (.node 5 (.go nT) .leaf .leaf)) (.node 8 (.go e9) (.node 7 (.go nU) .leaf .leaf) .leaf)) (.node 13 (.go gF) (.node 11 (.go fF) (.node 10 (.go mr) .leaf .leaf) (.node 12 (.go gM) .leaf .leaf)) (.node 15 (.go hJ) (.node 14 (.go hH) .leaf .leaf) .leaf))) (.node 23 (.go aY) (.node 20 (.go iV) (.node 18 (.go pq) (.node 17 (.go mF) .leaf .leaf) (.node 19 (.go nM) .leaf .leaf)) (.node 22 (.go cq) (.node 21 (.go iH) .leaf .leaf) .leaf)) (.node 27 (.go nL) (.node 25 (.go jQ) (.node 24 (.go cC) .leaf .leaf) (.node 26 (.go eW) .leaf .leaf)) (.node 29 (.go eY) (.node 28 (.go eh) .leaf .leaf) .leaf)))) (.node 44 (.go dL) (.node 37 (.go iI) (.node 34 (.go fN) (.node 32 (.go qO) (.node 31 (.go pu) .leaf .leaf) (.node 33 (.go ia) .leaf .leaf)) (.node 36 (.go po) (.node 35 (.go gD) .leaf .leaf) .leaf)) (.node 41 (.go dC) (.node 39 (.go kO) (.node 38 (.go aT) .leaf .leaf) (.node 40 (.go bL) .leaf .leaf)) (.node 43 (.go kR) (.node 42 (.go c9) .leaf .leaf) .leaf))) (.node 51 (.go mG) (.node 48 (.go kP) (.node 46 (.go ed) (.node 45 (.go gT) .leaf .leaf) (.node 47 (.go aE) .leaf .leaf)) (.node 50 (.go kS) (.node 49 (.go nS) .leaf .leaf) .leaf)) (.node 55 (.go pn) (.node 53 (.go ml) (.node 52 (.go jS) .leaf .leaf) (.node 54 (.go pt) .leaf .leaf)) (.node 57 (.go fQ) (.node 56 (.go ib) .leaf .leaf) .leaf))))) (.node 86 (.go jP) (.node 72 (.go fA) (.node 65 (.go iO) (.node 62 (.GC aR [(63,none,aV)]) (.node 60 (.go br) (.node 59 (.go gS) .leaf .leaf) (.node 61 (.go eg) .leaf .leaf)) (.node 64 (.go bg) (.node 63 (.go aV) .leaf .leaf) .leaf)) (.node 69 (.go mf) (.node 67 (.go bC) (.node 66 (.go nP) .leaf .leaf) (.node 68 (.go jR) .leaf .leaf)) (.node 71 (.go fy) (.node 70 (.go fB) .leaf .leaf) .leaf))) (.node 79 (.go aU) (.node 76 (.go iT) (.node 74 (.go qN) (.node 73 (.go nR) .leaf .leaf) (.node 75 (.go g9) .leaf .leaf)) (.node 78 (.go cZ) (.node 77 (.go lp) .leaf .leaf) .leaf)) (.node 83 (.go bE) (.node 81 (.go dB) (.node 80 (.go dO) .leaf .leaf) (.node 82 (.go aQ) .leaf .leaf)) (.node 85 (.go mq) (.node 84 (.go kQ) .leaf .leaf) .leaf)))) (.node 100 (.go cD) (.node 93 (.go nO) (.node 90 (.go fV) (.node 88 (.go mg) (.node 87 (.go nQ) .leaf .leaf) (.node 89 (.go fU) .leaf .leaf)) (.node 92 (.go gy) (.node 91 (.go fC) .leaf .leaf) .leaf)) (.node 97 (.go iS) (.node 95 (.go eE) (.node 94 (.go iU) .leaf .leaf) (.node 96 (.go pZ) .leaf .leaf)) (.node 99 (.go dP) (.node 98 (.go ef) .leaf .leaf) .leaf))) (.node 107 (.go bh) (.node 104 (.go cB) (.node 102 (.go mh) (.node 101 (.go kT) .leaf .leaf) (.node 103 (.go fE) .leaf .leaf)) (.node 106 (.go dQ) (.node 105 (.go dF) .leaf .leaf) .leaf)) (.node 111 (.go cY) (.node 109 (.go gA) (.node 108 (.go dV) .leaf .leaf) (.node 110 (.go dy) .leaf .leaf)) (.node 113 (.go gB) (.node 112 (.go dc) .leaf .leaf) .leaf))))))
def A00:Nat->Option jm:=abR.find
theorem aeM:∀f e,A00 f=some e->js T f e:=Bt.CD (t:=abR)
 ⟨(aD (F:=hO) apr (by kernel_rfl)),⟨(aD (F:=fg) apT (by kernel_rfl)),⟨(aD (F:=pp) ap7 (by kernel_rfl)),⟨(aD (F:=gU) at9 (by kernel_rfl)),⟨(aD (F:=nN) at6 (by kernel_rfl)),⟨(aD (F:=bF) at4 (by kernel_rfl)),⟨(aD (F:=iW) at3 (by kernel_rfl)),trivial,trivial⟩,⟨(aD (F:=nT) at5 (by kernel_rfl)),trivial,trivial⟩⟩,⟨(aD (F:=e9) at8 (by kernel_rfl)),⟨(aD (F:=nU) at7 (by kernel_rfl)),trivial,trivial⟩,trivial⟩⟩,⟨(aD (F:=gF) aqa (by kernel_rfl)),⟨(aD (F:=fF) aqc (by kernel_rfl)),⟨(aD (F:=mr) aqd (by kernel_rfl)),trivial,trivial⟩,⟨(aD (F:=gM) aqb (by kernel_rfl)),trivial,trivial⟩⟩,⟨(aD (F:=hJ) ap8 (by kernel_rfl)),⟨(aD (F:=hH) ap9 (by kernel_rfl)),trivial,trivial⟩,trivial⟩⟩⟩,⟨(aD (F:=aY) ap0 (by kernel_rfl)),⟨(aD (F:=iV) ap3 (by kernel_rfl)),⟨(aD (F:=pq) ap5 (by kernel_rfl)),⟨(aD (F:=mF) ap6 (by kernel_rfl)),trivial,trivial⟩,⟨(aD (F:=nM) ap4 (by kernel_rfl)),trivial,trivial⟩⟩,⟨(aD (F:=cq) ap1 (by kernel_rfl)),⟨(aD (F:=iH) ap2 (by kernel_rfl)),trivial,trivial⟩,trivial⟩⟩,⟨(aD (F:=nL) apW (by kernel_rfl)),⟨(aD (F:=jQ) apY (by kernel_rfl)),⟨(aD (F:=cC) apZ (by kernel_rfl)),trivial,trivial⟩,⟨(aD (F:=eW) apX (by kernel_rfl)),trivial,trivial⟩⟩,⟨(aD (F:=eY) apU (by kernel_rfl)),⟨(aD (F:=eh) apV (by kernel_rfl)),trivial,trivial⟩,trivial⟩⟩⟩⟩,⟨(aD (F:=dL) apF (by kernel_rfl)),⟨(aD (F:=iI) apM (by kernel_rfl)),⟨(aD (F:=fN) apP (by kernel_rfl)),⟨(aD (F:=qO) apR (by kernel_rfl)),⟨(aD (F:=pu) apS (by kernel_rfl)),trivial,trivial⟩,⟨(aD (F:=ia) apQ (by kernel_rfl)),trivial,trivial⟩⟩,⟨(aD (F:=po) apN (by kernel_rfl)),⟨(aD (F:=gD) apO (by kernel_rfl)),trivial,trivial⟩,trivial⟩⟩,⟨(aD (F:=dC) apI (by kernel_rfl)),⟨(aD (F:=kO) apK (by kernel_rfl)),⟨(aD (F:=aT) apL (by kernel_rfl)),trivial,trivial⟩,⟨(aD (F:=bL) apJ (by kernel_rfl)),trivial,trivial⟩⟩,⟨(aD (F:=kR) apG (by kernel_rfl)),⟨(aD (F:=c9) apH (by kernel_rfl)),trivial,trivial⟩,trivial⟩⟩⟩,⟨(aD (F:=mG) apy (by kernel_rfl)),⟨(aD (F:=kP) apB (by kernel_rfl)),⟨(aD (F:=ed) apD (by kernel_rfl)),⟨(aD (F:=gT) apE (by kernel_rfl)),trivial,trivial⟩,⟨(aD (F:=aE) apC (by kernel_rfl)),trivial,trivial⟩⟩,⟨(aD (F:=kS) apz (by kernel_rfl)),⟨(aD (F:=nS) apA (by kernel_rfl)),trivial,trivial⟩,trivial⟩⟩,⟨(aD (F:=pn) apu (by kernel_rfl)),⟨(aD (F:=ml) apw (by kernel_rfl)),⟨(aD (F:=jS) apx (by kernel_rfl)),trivial,trivial⟩,⟨(aD (F:=pt) apv (by kernel_rfl)),trivial,trivial⟩⟩,⟨(aD (F:=fQ) aps (by kernel_rfl)),⟨(aD (F:=ib) apt (by kernel_rfl)),trivial,trivial⟩,trivial⟩⟩⟩⟩⟩,⟨(aD (F:=jP) aoY (by kernel_rfl)),⟨(aD (F:=fA) apc (by kernel_rfl)),⟨(aD (F:=iO) apj (by kernel_rfl)),⟨(abk (F:=aR) apm (by kernel_rfl) (by kernel_rfl) (by kernel_rfl) (by kernel_rfl)),⟨(aD (F:=br) apo (by kernel_rfl)),⟨(aD (F:=gS) apq (by kernel_rfl)),trivial,trivial⟩,⟨(aD (F:=eg) apn (by kernel_rfl)),trivial,trivial⟩⟩,⟨(aD (F:=bg) apk (by kernel_rfl)),⟨(aD (F:=aV) apl (by kernel_rfl)),trivial,trivial⟩,trivial⟩⟩,⟨(aD (F:=mf) apf (by kernel_rfl)),⟨(aD (F:=bC) aph (by kernel_rfl)),⟨(aD (F:=nP) api (by kernel_rfl)),trivial,trivial⟩,⟨(aD (F:=jR) apg (by kernel_rfl)),trivial,trivial⟩⟩,⟨(aD (F:=fy) apd (by kernel_rfl)),⟨(aD (F:=fB) ape (by kernel_rfl)),trivial,trivial⟩,trivial⟩⟩⟩,⟨(aD (F:=aU) ao5 (by kernel_rfl)),⟨(aD (F:=iT) ao8 (by kernel_rfl)),⟨(aD (F:=qN) apa (by kernel_rfl)),⟨(aD (F:=nR) apb (by kernel_rfl)),trivial,trivial⟩,⟨(aD (F:=g9) ao9 (by kernel_rfl)),trivial,trivial⟩⟩,⟨(aD (F:=cZ) ao6 (by kernel_rfl)),⟨(aD (F:=lp) ao7 (by kernel_rfl)),trivial,trivial⟩,trivial⟩⟩,⟨(aD (F:=bE) ao1 (by kernel_rfl)),⟨(aD (F:=dB) ao3 (by kernel_rfl)),⟨(aD (F:=dO) ao4 (by kernel_rfl)),trivial,trivial⟩,⟨(aD (F:=aQ) ao2 (by kernel_rfl)),trivial,trivial⟩⟩,⟨(aD (F:=mq) aoZ (by kernel_rfl)),⟨(aD (F:=kQ) ao0 (by kernel_rfl)),trivial,trivial⟩,trivial⟩⟩⟩⟩,⟨(aD (F:=cD) ajh (by kernel_rfl)),⟨(aD (F:=nO) aoR (by kernel_rfl)),⟨(aD (F:=fV) aoU (by kernel_rfl)),⟨(aD (F:=mg) aoW (by kernel_rfl)),⟨(aD (F:=nQ) aoX (by kernel_rfl)),trivial,trivial⟩,⟨(aD (F:=fU) aoV (by kernel_rfl)),trivial,trivial⟩⟩,⟨(aD (F:=gy) aoS (by kernel_rfl)),⟨(aD (F:=fC) aoT (by kernel_rfl)),trivial,trivial⟩,trivial⟩⟩,⟨(aD (F:=iS) aoN (by kernel_rfl)),⟨(aD (F:=eE) aoP (by kernel_rfl)),⟨(aD (F:=iU) aoQ (by kernel_rfl)),trivial,trivial⟩,⟨(abj (F:=qc) aoO (by kernel_rfl) af8),trivial,trivial⟩⟩,⟨(aD (F:=dP) aoL (by kernel_rfl)),⟨(aD (F:=ef) aoM (by kernel_rfl)),trivial,trivial⟩,trivial⟩⟩⟩,⟨(aD (F:=bh) aja (by kernel_rfl)),⟨(aD (F:=cB) ajd (by kernel_rfl)),⟨(aD (F:=mh) ajf (by kernel_rfl)),⟨(aD (F:=kT) ajg (by kernel_rfl)),trivial,trivial⟩,⟨(aD (F:=fE) aje (by kernel_rfl)),trivial,trivial⟩⟩,⟨(aD (F:=dQ) ajb (by kernel_rfl)),⟨(aD (F:=dF) ajc (by kernel_rfl)),trivial,trivial⟩,trivial⟩⟩,⟨(aD (F:=cY) ai6 (by kernel_rfl)),⟨(aD (F:=gA) ai8 (by kernel_rfl)),⟨(aD (F:=dV) ai9 (by kernel_rfl)),trivial,trivial⟩,⟨(aD (F:=dy) ai7 (by kernel_rfl)),trivial,trivial⟩⟩,⟨(aD (F:=gB) ai4 (by kernel_rfl)),⟨(aD (F:=dc) ai5 (by kernel_rfl)),trivial,trivial⟩,trivial⟩⟩⟩⟩⟩⟩
end
section
abbrev A0:Nat->Option jm:=A00
theorem P8:∀f e,A0 f=some e->js T f e:=aeM
end
section
def Qi(T:Nat->Option jm)(n:Nat)(F:aC)(az:List EV):Option EV:=match dv (bc T n) n F az fT with
 |some (.ret v m)=>(match bZ deep m [v]with
  |some [V]=>some V
  |_=>none)
 |_=>none
theorem Ll{T:Nat->Option jm}{n:Nat}{F:aC}{az:List EV}{V:EV}(h:Qi T n F az=some V):qt T F az=some V:=by
 unfold Qi at h;cases hb:dv (bc T n) n F az fT with
 |none=>rw[hb]at h;cases h
 |some fin=>
  cases fin with
  |jk v m=>rw[hb]at h;cases h
  |ret v m=>
   rw[hb]at h;simp only at h
   split at h
   ·rename_i W e
    cases h;exact wy hb e
   ·cases h
def tx1:List UInt8:=[102,110,32,109,97,105,110,40,120,32,97,114,114,41,32,105,110,116,32,123,32,112,114,105,110,116,32,121,59,32,125]
def tx2:List UInt8:=[102,110,32,109,97,105,110,40,120,32,97,114,114,41,32,105,110,116,32,123,32,118,97,114,32,110,32,61,32,108,101,110,40,120,41,59,32,114,101,116,117,114,110,32,110,59,32,125]
def tv1:EV:=(.tuple [(.fz 0 4 [[(.int .i64 3),(.str [102,110]),(.int .i64 0),(.int .i64 0)],[(.int .i64 1),(.str [109,97,105,110]),(.int .i64 0),(.int .i64 3)],[(.int .i64 4),(.str [40]),(.int .i64 0),(.int .i64 7)],[(.int .i64 1),(.str [120]),(.int .i64 0),(.int .i64 8)],[(.int .i64 3),(.str [97,114,114]),(.int .i64 0),(.int .i64 10)],[(.int .i64 4),(.str [41]),(.int .i64 0),(.int .i64 13)],[(.int .i64 3),(.str [105,110,116]),(.int .i64 0),(.int .i64 15)],[(.int .i64 4),(.str [123]),(.int .i64 0),(.int .i64 19)],[(.int .i64 3),(.str [112,114,105,110,116]),(.int .i64 0),(.int .i64 21)],[(.int .i64 1),(.str [121]),(.int .i64 0),(.int .i64 27)],[(.int .i64 4),(.str [59]),(.int .i64 0),(.int .i64 28)],[(.int .i64 4),(.str [125]),(.int .i64 0),(.int .i64 30)],[(.int .i64 0),(.str []),(.int .i64 0),(.int .i64 31)]]),(.agg [(.int .i64 0),(.int .i64 0)])])
def tv2:EV:=(.tuple [(.fz 0 4 [[(.int .i64 3),(.str [102,110]),(.int .i64 0),(.int .i64 0)],[(.int .i64 1),(.str [109,97,105,110]),(.int .i64 0),(.int .i64 3)],[(.int .i64 4),(.str [40]),(.int .i64 0),(.int .i64 7)],[(.int .i64 1),(.str [120]),(.int .i64 0),(.int .i64 8)],[(.int .i64 3),(.str [97,114,114]),(.int .i64 0),(.int .i64 10)],[(.int .i64 4),(.str [41]),(.int .i64 0),(.int .i64 13)],[(.int .i64 3),(.str [105,110,116]),(.int .i64 0),(.int .i64 15)],[(.int .i64 4),(.str [123]),(.int .i64 0),(.int .i64 19)],[(.int .i64 3),(.str [118,97,114]),(.int .i64 0),(.int .i64 21)],[(.int .i64 1),(.str [110]),(.int .i64 0),(.int .i64 25)],[(.int .i64 4),(.str [61]),(.int .i64 0),(.int .i64 27)],[(.int .i64 3),(.str [108,101,110]),(.int .i64 0),(.int .i64 29)],[(.int .i64 4),(.str [40]),(.int .i64 0),(.int .i64 32)],[(.int .i64 1),(.str [120]),(.int .i64 0),(.int .i64 33)],[(.int .i64 4),(.str [41]),(.int .i64 0),(.int .i64 34)],[(.int .i64 4),(.str [59]),(.int .i64 0),(.int .i64 35)],[(.int .i64 3),(.str [114,101,116,117,114,110]),(.int .i64 0),(.int .i64 37)],[(.int .i64 1),(.str [110]),(.int .i64 0),(.int .i64 44)],[(.int .i64 4),(.str [59]),(.int .i64 0),(.int .i64 45)],[(.int .i64 4),(.str [125]),(.int .i64 0),(.int .i64 47)],[(.int .i64 0),(.str []),(.int .i64 0),(.int .i64 48)]]),(.agg [(.int .i64 0),(.int .i64 0)])])
theorem akJ:Qi A0 5000 gM [.str tx1]=some tv1:=by kernel_rfl
theorem akI:Qi A0 5000 gM [.str tx2]=some tv2:=by kernel_rfl
def aaF:List EV->Option EV
 |[.str s]=>bif decide (s=tx1)then some tv1 else bif decide (s=tx2)then some tv2 else none
 |_=>none
theorem aaE:∀az V,aaF az=some V->qt A0 gM az=some V:=by
 intro az V h;unfold aaF at h
 split at h
 ·rename_i s
  by_cases h1:s=tx1
  ·subst h1;rw[decide_eq_true rfl,cond_true]at h;cases h;exact Ll akJ
  ·rw[decide_eq_false h1,cond_false]at h;by_cases h2:s=tx2
   ·subst h2;rw[decide_eq_true rfl,cond_true]at h;cases h;exact Ll akI
   ·rw[decide_eq_false h2,cond_false]at h;cases h
 ·cases h
def W1:Nat->Option jm:=up A0 y8 (.spec (lR aaF))
theorem aiL:∀f e,W1 f=some e->js T f e:=by
 obtain⟨F,hT,ez,hs⟩:=P8 y8 (.go gM) rfl;exact LR P8 (FW P8 hT ez (g:=aaF) fun az V h=>by rw[<- hs];exact aaE az V h)
end
section
theorem acS:isTrue (bc W1 5000 5 [] fT)=true:=by kernel_rfl
def A1:Nat->Option jm:=up A0 5 (.pure O0)
theorem aiU:∀f e,A1 f=some e->js T f e:=LR P8 (Qw aiL (F1:=nT) rfl acS)
def K(f:Nat):Nat:=bif adJ f [3,4,7,10,11,21,25,30,31,32,37,43,49,50,51,52,53,54,65,66,67,68,69,77,84,85,86,87,88,96,97,101,102,105]then 1 else bif adJ f [12,59,73,93,95]then 2 else 0
abbrev B0:Nat->Option jm:=A1
theorem aiT:∀f e,B0 f=some e->js T f e:=aiU
noncomputable def B1:Nat->Option jm:=up B0 64 (.spec (kK B0 bg))
theorem aiS:∀f e,B1 f=some e->js T f e:=qS aiT (F1:=bg) rfl
noncomputable def B2:Nat->Option jm:=up B1 83 (.spec (kK B1 bE))
theorem aiR:∀f e,B2 f=some e->js T f e:=qS aiS (F1:=bE) rfl
noncomputable def B3:Nat->Option jm:=up B2 79 (.spec (kK B2 aU))
theorem aiQ:∀f e,B3 f=some e->js T f e:=qS aiR (F1:=aU) rfl
noncomputable def B4:Nat->Option jm:=up B3 107 (.spec (kK B3 bh))
theorem aiP:∀f e,B4 f=some e->js T f e:=qS aiQ (F1:=bh) rfl
noncomputable def B5:Nat->Option jm:=up B4 23 (.spec (kK B4 aY))
theorem aiO:∀f e,B5 f=some e->js T f e:=qS aiP (F1:=aY) rfl
noncomputable def B6:Nat->Option jm:=up B5 13 (.spec (kK B5 gF))
theorem aiN:∀f e,B6 f=some e->js T f e:=qS aiO (F1:=gF) rfl
noncomputable def B7:Nat->Option jm:=up B6 34 (.spec (kK B6 fN))
theorem aiM:∀f e,B7 f=some e->js T f e:=qS aiN (F1:=fN) rfl
noncomputable abbrev B:Nat->Option jm:=B7
theorem aeL:∀f e,B f=some e->js T f e:=aiM
noncomputable abbrev U:Nat->Option jm:=UT B K
instance:bV B7 3 iW:=⟨rfl⟩
instance:gR K 3:=⟨rfl⟩
instance:bV B7 4 bF:=⟨rfl⟩
instance:gR K 4:=⟨rfl⟩
instance:bV B7 6 nN:=⟨rfl⟩
instance:bR K 6:=⟨rfl⟩
instance:bV B7 7 nU:=⟨rfl⟩
instance:gR K 7:=⟨rfl⟩
instance:bV B7 8 e9:=⟨rfl⟩
instance:bR K 8:=⟨rfl⟩
instance:bV B7 9 gU:=⟨rfl⟩
instance:bR K 9:=⟨rfl⟩
instance:bV B7 10 mr:=⟨rfl⟩
instance:gR K 10:=⟨rfl⟩
instance:bV B7 11 fF:=⟨rfl⟩
instance:gR K 11:=⟨rfl⟩
instance:bV B7 12 gM:=⟨rfl⟩
instance:GR K 12:=⟨rfl⟩
instance:bR K 13:=⟨rfl⟩
instance:bV B7 14 hH:=⟨rfl⟩
instance:bR K 14:=⟨rfl⟩
instance:bV B7 15 hJ:=⟨rfl⟩
instance:bR K 15:=⟨rfl⟩
instance:bV B7 16 pp:=⟨rfl⟩
instance:bR K 16:=⟨rfl⟩
instance:bV B7 17 mF:=⟨rfl⟩
instance:bR K 17:=⟨rfl⟩
instance:bV B7 18 pq:=⟨rfl⟩
instance:bR K 18:=⟨rfl⟩
instance:bV B7 19 nM:=⟨rfl⟩
instance:bR K 19:=⟨rfl⟩
instance:bV B7 20 iV:=⟨rfl⟩
instance:bR K 20:=⟨rfl⟩
instance:bV B7 21 iH:=⟨rfl⟩
instance:gR K 21:=⟨rfl⟩
instance:bV B7 22 cq:=⟨rfl⟩
instance:bR K 22:=⟨rfl⟩
instance:bR K 23:=⟨rfl⟩
instance:bV B7 24 cC:=⟨rfl⟩
instance:bR K 24:=⟨rfl⟩
instance:bV B7 25 jQ:=⟨rfl⟩
instance:gR K 25:=⟨rfl⟩
instance:bV B7 26 eW:=⟨rfl⟩
instance:bR K 26:=⟨rfl⟩
instance:bV B7 27 nL:=⟨rfl⟩
instance:bR K 27:=⟨rfl⟩
instance:bV B7 28 eh:=⟨rfl⟩
instance:bR K 28:=⟨rfl⟩
instance:bV B7 29 eY:=⟨rfl⟩
instance:bR K 29:=⟨rfl⟩
instance:bV B7 30 fg:=⟨rfl⟩
instance:gR K 30:=⟨rfl⟩
instance:bV B7 31 pu:=⟨rfl⟩
instance:gR K 31:=⟨rfl⟩
instance:bV B7 32 qO:=⟨rfl⟩
instance:gR K 32:=⟨rfl⟩
instance:bV B7 33 ia:=⟨rfl⟩
instance:bR K 33:=⟨rfl⟩
instance:bR K 34:=⟨rfl⟩
instance:bV B7 35 gD:=⟨rfl⟩
instance:bR K 35:=⟨rfl⟩
instance:bV B7 36 po:=⟨rfl⟩
instance:bR K 36:=⟨rfl⟩
instance:bV B7 37 iI:=⟨rfl⟩
instance:gR K 37:=⟨rfl⟩
instance:bV B7 38 aT:=⟨rfl⟩
instance:bR K 38:=⟨rfl⟩
instance:bV B7 39 kO:=⟨rfl⟩
instance:bR K 39:=⟨rfl⟩
instance:bV B7 40 bL:=⟨rfl⟩
instance:bR K 40:=⟨rfl⟩
instance:bV B7 41 dC:=⟨rfl⟩
instance:bR K 41:=⟨rfl⟩
instance:bV B7 42 c9:=⟨rfl⟩
instance:bR K 42:=⟨rfl⟩
instance:bV B7 43 kR:=⟨rfl⟩
instance:gR K 43:=⟨rfl⟩
instance:bV B7 44 dL:=⟨rfl⟩
instance:bR K 44:=⟨rfl⟩
instance:bV B7 45 gT:=⟨rfl⟩
instance:bR K 45:=⟨rfl⟩
instance:bV B7 46 ed:=⟨rfl⟩
instance:bR K 46:=⟨rfl⟩
instance:bV B7 47 aE:=⟨rfl⟩
instance:bR K 47:=⟨rfl⟩
instance:bV B7 48 kP:=⟨rfl⟩
instance:bR K 48:=⟨rfl⟩
instance:bV B7 49 nS:=⟨rfl⟩
instance:gR K 49:=⟨rfl⟩
instance:bV B7 50 kS:=⟨rfl⟩
instance:gR K 50:=⟨rfl⟩
instance:bV B7 51 mG:=⟨rfl⟩
instance:gR K 51:=⟨rfl⟩
instance:bV B7 52 jS:=⟨rfl⟩
instance:gR K 52:=⟨rfl⟩
instance:bV B7 53 ml:=⟨rfl⟩
instance:gR K 53:=⟨rfl⟩
instance:bV B7 54 pt:=⟨rfl⟩
instance:gR K 54:=⟨rfl⟩
instance:bV B7 55 pn:=⟨rfl⟩
instance:bR K 55:=⟨rfl⟩
instance:bV B7 56 ib:=⟨rfl⟩
instance:bR K 56:=⟨rfl⟩
instance:bV B7 57 fQ:=⟨rfl⟩
instance:bR K 57:=⟨rfl⟩
instance:bV B7 58 hO:=⟨rfl⟩
instance:bR K 58:=⟨rfl⟩
instance:bV B7 59 gS:=⟨rfl⟩
instance:GR K 59:=⟨rfl⟩
instance:bV B7 60 br:=⟨rfl⟩
instance:bR K 60:=⟨rfl⟩
instance:bV B7 61 eg:=⟨rfl⟩
instance:bR K 61:=⟨rfl⟩
instance:bV B7 63 aV:=⟨rfl⟩
instance:bR K 63:=⟨rfl⟩
instance:bR K 64:=⟨rfl⟩
instance:bV B7 65 iO:=⟨rfl⟩
instance:gR K 65:=⟨rfl⟩
instance:bV B7 66 nP:=⟨rfl⟩
instance:gR K 66:=⟨rfl⟩
instance:bV B7 67 bC:=⟨rfl⟩
instance:gR K 67:=⟨rfl⟩
instance:bV B7 68 jR:=⟨rfl⟩
instance:gR K 68:=⟨rfl⟩
instance:bV B7 69 mf:=⟨rfl⟩
instance:gR K 69:=⟨rfl⟩
instance:bV B7 70 fB:=⟨rfl⟩
instance:bR K 70:=⟨rfl⟩
instance:bV B7 71 fy:=⟨rfl⟩
instance:bR K 71:=⟨rfl⟩
instance:bV B7 72 fA:=⟨rfl⟩
instance:bR K 72:=⟨rfl⟩
instance:bV B7 73 nR:=⟨rfl⟩
instance:GR K 73:=⟨rfl⟩
instance:bV B7 74 qN:=⟨rfl⟩
instance:bR K 74:=⟨rfl⟩
instance:bV B7 75 g9:=⟨rfl⟩
instance:bR K 75:=⟨rfl⟩
instance:bV B7 76 iT:=⟨rfl⟩
instance:bR K 76:=⟨rfl⟩
instance:bV B7 77 lp:=⟨rfl⟩
instance:gR K 77:=⟨rfl⟩
instance:bV B7 78 cZ:=⟨rfl⟩
instance:bR K 78:=⟨rfl⟩
instance:bR K 79:=⟨rfl⟩
instance:bV B7 80 dO:=⟨rfl⟩
instance:bR K 80:=⟨rfl⟩
instance:bV B7 81 dB:=⟨rfl⟩
instance:bR K 81:=⟨rfl⟩
instance:bV B7 82 aQ:=⟨rfl⟩
instance:bR K 82:=⟨rfl⟩
instance:bR K 83:=⟨rfl⟩
instance:bV B7 84 kQ:=⟨rfl⟩
instance:gR K 84:=⟨rfl⟩
instance:bV B7 85 mq:=⟨rfl⟩
instance:gR K 85:=⟨rfl⟩
instance:bV B7 86 jP:=⟨rfl⟩
instance:gR K 86:=⟨rfl⟩
instance:bV B7 87 nQ:=⟨rfl⟩
instance:gR K 87:=⟨rfl⟩
instance:bV B7 88 mg:=⟨rfl⟩
instance:gR K 88:=⟨rfl⟩
instance:bV B7 89 fU:=⟨rfl⟩
instance:bR K 89:=⟨rfl⟩
instance:bV B7 90 fV:=⟨rfl⟩
instance:bR K 90:=⟨rfl⟩
instance:bV B7 91 fC:=⟨rfl⟩
instance:bR K 91:=⟨rfl⟩
instance:bV B7 92 gy:=⟨rfl⟩
instance:bR K 92:=⟨rfl⟩
instance:bV B7 93 nO:=⟨rfl⟩
instance:GR K 93:=⟨rfl⟩
instance:bV B7 94 iU:=⟨rfl⟩
instance:bR K 94:=⟨rfl⟩
instance:bV B7 95 eE:=⟨rfl⟩
instance:GR K 95:=⟨rfl⟩
instance:bV B7 96 pZ:=⟨rfl⟩
instance:gR K 96:=⟨rfl⟩
instance:bV B7 97 iS:=⟨rfl⟩
instance:gR K 97:=⟨rfl⟩
instance:bV B7 98 ef:=⟨rfl⟩
instance:bR K 98:=⟨rfl⟩
instance:bV B7 99 dP:=⟨rfl⟩
instance:bR K 99:=⟨rfl⟩
instance:bV B7 100 cD:=⟨rfl⟩
instance:bR K 100:=⟨rfl⟩
instance:bV B7 101 kT:=⟨rfl⟩
instance:gR K 101:=⟨rfl⟩
instance:bV B7 102 mh:=⟨rfl⟩
instance:gR K 102:=⟨rfl⟩
instance:bV B7 103 fE:=⟨rfl⟩
instance:bR K 103:=⟨rfl⟩
instance:bV B7 104 cB:=⟨rfl⟩
instance:bR K 104:=⟨rfl⟩
instance:bV B7 105 dF:=⟨rfl⟩
instance:gR K 105:=⟨rfl⟩
instance:bV B7 106 dQ:=⟨rfl⟩
instance:bR K 106:=⟨rfl⟩
instance:bR K 107:=⟨rfl⟩
instance:bV B7 108 dV:=⟨rfl⟩
instance:bR K 108:=⟨rfl⟩
instance:bV B7 109 gA:=⟨rfl⟩
instance:bR K 109:=⟨rfl⟩
instance:bV B7 110 dy:=⟨rfl⟩
instance:bR K 110:=⟨rfl⟩
instance:bV B7 111 cY:=⟨rfl⟩
instance:bR K 111:=⟨rfl⟩
instance:bV B7 112 dc:=⟨rfl⟩
instance:bR K 112:=⟨rfl⟩
instance:bV B7 113 gB:=⟨rfl⟩
instance:bR K 113:=⟨rfl⟩
theorem oq{args:List EV}{m:Mem}:run U 64 args m=kK B0 bg args m:=Db (h:=⟨rfl⟩) rfl
theorem nD{args:List EV}{m:Mem}:run B2 64 args m=kK B0 bg args m:=vC rfl
theorem tB{args:List EV}{m:Mem}:run U 83 args m=kK B1 bE args m:=Db (h:=⟨rfl⟩) rfl
theorem oz{args:List EV}{m:Mem}:run U 79 args m=kK B2 aU args m:=Db (h:=⟨rfl⟩) rfl
theorem nC{args:List EV}{m:Mem}:run B3 79 args m=kK B2 aU args m:=vC rfl
theorem oA{args:List EV}{m:Mem}:run U 107 args m=kK B3 bh args m:=Db (h:=⟨rfl⟩) rfl
theorem nB{args:List EV}{m:Mem}:run U 23 args m=kK B4 aY args m:=Db (h:=⟨rfl⟩) rfl
theorem xH{m:Mem}:run U 5 [] m=some (.ret (.bool true) m):=UE (f:=5) (by unfold U UT PT;rfl)
end
section
def is(l:List Int):List EV:=l.map fun x=>.int .i64 x
theorem eM{l:List Int}:(is l).length=l.length:=List.length_map ..
theorem sd(a:List Int)(x:Int):is (a++[x])=is a++[.int .i64 x]:=by simp[is]
theorem gp{l:List Int}{i:Nat}:(is l)[i]?=(l[i]?).map fun x=>.int .i64 x:=by unfold is;rw[List.getElem?_map]
theorem fX{l:List Int}{i:Nat}{x:Int}(h:i<l.length):(is l).take i++[.int .i64 x]++(is l).drop (i+1)=is (l.set i x):=by
 unfold is;rw[List.set_eq_take_append_cons_drop,if_pos h,List.map_append,List.map_cons,List.map_take,List.map_drop];simp
end
end Go.Proofs.YtfbnghpabppljaaGreatDoor.Ev
