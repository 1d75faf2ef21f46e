/- EvF2, EvF3, EvF4, EvLaw, EvLim. -/
import Derived.Below
import Derived.Test.YtblcomejcahkdaaDoorMc
set_option linter.unusedSimpArgs false
set_option linter.unusedVariables false
section
namespace Go.Proofs.YtblcomejcahkdaaDoor.Ev
open Go

/- strings.Join -/
abbrev n_strings_Join : Nat := 33
def F_strings_Join_l0 : ICode :=
 (.seq
  (.region [⟨(some 42), (.val (.bin .lss (.tmp 41) (.tmp 40))), none⟩])
  (.seq
   (.cond (.tmp 42)
    .skip
    (.exit 1))
   (.seq
    (.block 2
     (.seq
      (.region [⟨(some 43), (.val (.iaddr 1 (.tmp 39) (.tmp 41))), none⟩,
        ⟨(some 44), (.val (.load none (.tmp 43))), none⟩,
        ⟨(some 7), (.val (.mov (.tmp 44))), none⟩])
      (.seq
       (.seq
        (.region [⟨(some 45), (.val (.mov (.tmp 7))), none⟩,
          ⟨(some 46), (.val (.lenstr (.tmp 45))), none⟩,
          ⟨(some 47), (.val (.mov (.tmp 5))), none⟩,
          ⟨(some 48), (.val (.bin .sub (.const (.int .i64 9223372036854775807)) (.tmp 47))), none⟩,
          ⟨(some 49), (.val (.bin .gtr (.tmp 46) (.tmp 48))), none⟩])
        (.cond (.tmp 49)
         (.region [⟨(some 50), (.val (.iface 9 (.const (.str [115, 116, 114, 105, 110, 103, 115, 58, 32, 74, 111, 105, 110, 32, 111, 117, 116, 112, 117, 116, 32, 108, 101, 110, 103, 116, 104, 32, 111, 118, 101, 114, 102, 108, 111, 119])))), none⟩,
           ⟨none, (.panic (.tmp 50)), none⟩])
         .skip))
       (.region [⟨(some 51), (.val (.mov (.tmp 5))), none⟩,
         ⟨(some 52), (.val (.mov (.tmp 7))), none⟩,
         ⟨(some 53), (.val (.lenstr (.tmp 52))), none⟩,
         ⟨(some 54), (.val (.bin .add (.tmp 51) (.tmp 53))), none⟩,
         ⟨(some 5), (.val (.mov (.tmp 54))), none⟩]))))
    (.region [⟨(some 55), (.val (.bin .add (.tmp 41) (.const (.int .i64 1)))), none⟩,
      ⟨(some 41), (.val (.mov (.tmp 55))), none⟩]))))
def F_strings_Join_l1 : ICode :=
 (.seq
  (.region [⟨(some 66), (.val (.bin .lss (.tmp 65) (.tmp 64))), none⟩])
  (.seq
   (.cond (.tmp 66)
    .skip
    (.exit 3))
   (.seq
    (.block 4
     (.seq
      (.region [⟨(some 67), (.val (.iaddr 1 (.tmp 63) (.tmp 65))), none⟩,
        ⟨(some 68), (.val (.load none (.tmp 67))), none⟩,
        ⟨(some 10), (.val (.mov (.tmp 68))), none⟩])
      (.seq
       (.region [⟨(some 69), (.val (.mov (.tmp 1))), none⟩,
         ⟨(some 70), (.call (.const (.func 45 [] [])) [(.tmp 8), (.tmp 69)]), none⟩])
       (.region [⟨(some 71), (.val (.mov (.tmp 10))), none⟩,
         ⟨(some 72), (.call (.const (.func 45 [] [])) [(.tmp 8), (.tmp 71)]), none⟩]))))
    (.region [⟨(some 73), (.val (.bin .add (.tmp 65) (.const (.int .i64 1)))), none⟩,
      ⟨(some 65), (.val (.mov (.tmp 73))), none⟩]))))
def F_strings_Join : IFun :=
 ⟨75,
 (.seq
  (.region [⟨(some 4), (.val (.mov (.const (.str [])))), none⟩])
  (.seq
   (.seq
    (.region [⟨(some 11), (.val (.mov (.tmp 0))), none⟩,
      ⟨(some 12), (.val (.len (.tmp 11))), none⟩])
    (.block 0
     (.seq
      (.region [⟨(some 14), (.val (.eq false (.prim 1) (.tmp 12) (.const (.int .i64 0)))), none⟩,
        ⟨(some 13), (.val (.mov (.tmp 14))), none⟩])
      (.cond (.tmp 13)
       (.seq
        (.region [⟨(some 4), (.val (.mov (.const (.str [])))), none⟩])
        .ret)
       (.seq
        (.region [⟨(some 16), (.val (.eq false (.prim 1) (.tmp 12) (.const (.int .i64 1)))), none⟩,
          ⟨(some 15), (.val (.mov (.tmp 16))), none⟩])
        (.cond (.tmp 15)
         (.seq
          (.region [⟨(some 17), (.val (.mov (.tmp 0))), none⟩,
            ⟨(some 18), (.val (.iaddr 1 (.tmp 17) (.const (.int .i64 0)))), none⟩,
            ⟨(some 19), (.val (.load none (.tmp 18))), none⟩,
            ⟨(some 4), (.val (.mov (.tmp 19))), none⟩])
          .ret)
         .skip))))))
   (.seq
    (.region [⟨(some 5), (.val (.mov (.const (.int .i64 0)))), none⟩])
    (.seq
     (.seq
      (.region [⟨(some 20), (.val (.mov (.tmp 1))), none⟩,
        ⟨(some 21), (.val (.lenstr (.tmp 20))), none⟩,
        ⟨(some 22), (.val (.bin .gtr (.tmp 21) (.const (.int .i64 0)))), none⟩])
      (.cond (.tmp 22)
       (.seq
        (.seq
         (.region [⟨(some 23), (.val (.mov (.tmp 1))), none⟩,
           ⟨(some 24), (.val (.lenstr (.tmp 23))), none⟩,
           ⟨(some 25), (.val (.mov (.tmp 0))), none⟩,
           ⟨(some 26), (.val (.len (.tmp 25))), none⟩,
           ⟨(some 27), (.val (.bin .sub (.tmp 26) (.const (.int .i64 1)))), none⟩,
           ⟨(some 28), (.val (.bin .quo (.const (.int .i64 9223372036854775807)) (.tmp 27))), none⟩,
           ⟨(some 29), (.val (.bin .geq (.tmp 24) (.tmp 28))), none⟩])
         (.cond (.tmp 29)
          (.region [⟨(some 30), (.val (.iface 9 (.const (.str [115, 116, 114, 105, 110, 103, 115, 58, 32, 74, 111, 105, 110, 32, 111, 117, 116, 112, 117, 116, 32, 108, 101, 110, 103, 116, 104, 32, 111, 118, 101, 114, 102, 108, 111, 119])))), none⟩,
            ⟨none, (.panic (.tmp 30)), none⟩])
          .skip))
        (.region [⟨(some 31), (.val (.mov (.tmp 5))), none⟩,
          ⟨(some 32), (.val (.mov (.tmp 1))), none⟩,
          ⟨(some 33), (.val (.lenstr (.tmp 32))), none⟩,
          ⟨(some 34), (.val (.mov (.tmp 0))), none⟩,
          ⟨(some 35), (.val (.len (.tmp 34))), none⟩,
          ⟨(some 36), (.val (.bin .sub (.tmp 35) (.const (.int .i64 1)))), none⟩,
          ⟨(some 37), (.val (.bin .mul (.tmp 33) (.tmp 36))), none⟩,
          ⟨(some 38), (.val (.bin .add (.tmp 31) (.tmp 37))), none⟩,
          ⟨(some 5), (.val (.mov (.tmp 38))), none⟩]))
       .skip))
     (.seq
      (.seq
       (.region [⟨(some 39), (.val (.mov (.tmp 0))), none⟩,
         ⟨(some 40), (.val (.len (.tmp 39))), none⟩,
         ⟨(some 41), (.val (.mov (.const (.int .i64 0)))), none⟩])
       (.block 1
        (.loop F_strings_Join_l0)))
      (.seq
       (.region [⟨(some 8), (.val (.alloc 61 [.nilptr, .nilslice])), none⟩])
       (.seq
        (.region [⟨(some 56), (.val (.mov (.tmp 5))), none⟩,
          ⟨(some 57), (.call (.const (.func 44 [] [])) [(.tmp 8), (.tmp 56)]), none⟩])
        (.seq
         (.region [⟨(some 58), (.val (.mov (.tmp 0))), none⟩,
           ⟨(some 59), (.val (.iaddr 1 (.tmp 58) (.const (.int .i64 0)))), none⟩,
           ⟨(some 60), (.val (.load none (.tmp 59))), none⟩,
           ⟨(some 61), (.call (.const (.func 45 [] [])) [(.tmp 8), (.tmp 60)]), none⟩])
         (.seq
          (.seq
           (.region [⟨(some 62), (.val (.mov (.tmp 0))), none⟩,
             ⟨(some 63), (.val (.slsl 1 (.tmp 62) (some (.const (.int .i64 1))) none none)), none⟩,
             ⟨(some 64), (.val (.len (.tmp 63))), none⟩,
             ⟨(some 65), (.val (.mov (.const (.int .i64 0)))), none⟩])
           (.block 3
            (.loop F_strings_Join_l1)))
          (.seq
           (.region [⟨(some 74), (.call (.const (.func 46 [] [])) [(.tmp 8)]), none⟩,
             ⟨(some 4), (.val (.mov (.tmp 74))), none⟩])
           .ret)))))))))),
 [.tmp 4]⟩
/- balustrade/balustradebase.HasInt -/
abbrev n_base_HasInt : Nat := 34
def F_base_HasInt_l0 : ICode :=
 (.seq
  (.seq
   (.region [⟨(some 6), (.val (.mov (.tmp 5))), none⟩,
     ⟨(some 7), (.val (.mov (.tmp 0))), none⟩,
     ⟨(some 8), (.val (.len (.tmp 7))), none⟩,
     ⟨(some 9), (.val (.bin .lss (.tmp 6) (.tmp 8))), none⟩])
   (.cond (.tmp 9)
    .skip
    (.exit 0)))
  (.seq
   (.block 1
    (.seq
     (.region [⟨(some 12), (.val (.mov (.tmp 0))), none⟩,
       ⟨(some 13), (.val (.mov (.tmp 5))), none⟩,
       ⟨(some 14), (.val (.iaddr 1 (.tmp 12) (.tmp 13))), none⟩,
       ⟨(some 15), (.val (.load none (.tmp 14))), none⟩,
       ⟨(some 16), (.val (.mov (.tmp 1))), none⟩,
       ⟨(some 17), (.val (.eq false (.prim 1) (.tmp 15) (.tmp 16))), none⟩])
     (.cond (.tmp 17)
      (.seq
       (.region [⟨(some 4), (.val (.mov (.const (.bool true)))), none⟩])
       .ret)
      .skip)))
   (.region [⟨(some 10), (.val (.mov (.tmp 5))), none⟩,
     ⟨(some 11), (.val (.bin .add (.tmp 10) (.const (.int .i64 1)))), none⟩,
     ⟨(some 5), (.val (.mov (.tmp 11))), none⟩])))
def F_base_HasInt : IFun :=
 ⟨18,
 (.seq
  (.region [⟨(some 4), (.val (.mov (.const (.bool false)))), none⟩])
  (.seq
   (.seq
    (.region [⟨(some 5), (.val (.mov (.const (.int .i64 0)))), none⟩])
    (.block 0
     (.loop F_base_HasInt_l0)))
   (.seq
    (.region [⟨(some 4), (.val (.mov (.const (.bool false)))), none⟩])
    .ret))),
 [.tmp 4]⟩
theorem ok34 : cFun Tryd.prog G Tryd.f34 = some F_base_HasInt := by kernel_rfl

/- balustrade/balustraderef06.own -/
abbrev n_r06_own : Nat := 35
def F_r06_own : IFun :=
 ⟨83,
 (.seq
  (.region [⟨(some 1), (.val (.box 27 (.tmp 0))), none⟩,
    ⟨(some 2), (.val (.mov (.const (.bool false)))), none⟩])
  (.seq
   (.seq
    (.draw [⟨(some 3), (.val (.faddr 0 (.tmp 1))), none⟩,
      ⟨(some 4), (.val (.load none (.tmp 3))), none⟩,
      ⟨(some 5), (.val (.bin .lss (.tmp 4) (.const (.int .i64 1)))), none⟩,
      ⟨(some 6), (.val (.mov (.tmp 5))), none⟩,
      ⟨(some 7), (.val (.faddr 0 (.tmp 1))), (some (6, false))⟩,
      ⟨(some 8), (.val (.load none (.tmp 7))), (some (6, false))⟩,
      ⟨(some 9), (.val (.bin .gtr (.tmp 8) (.const (.int .i64 26)))), (some (6, false))⟩,
      ⟨(some 10), (.val (.pick (.tmp 6) (.const (.bool true)) (.tmp 9))), none⟩,
      ⟨(some 11), (.val (.mov (.tmp 10))), none⟩,
      ⟨(some 12), (.val (.faddr 4 (.tmp 1))), (some (11, false))⟩,
      ⟨(some 13), (.val (.load none (.tmp 12))), (some (11, false))⟩,
      ⟨(some 14), (.val (.bin .lss (.tmp 13) (.const (.int .i64 0)))), (some (11, false))⟩,
      ⟨(some 15), (.val (.pick (.tmp 11) (.const (.bool true)) (.tmp 14))), none⟩,
      ⟨(some 16), (.val (.mov (.tmp 15))), none⟩,
      ⟨(some 17), (.val (.faddr 0 (.tmp 1))), (some (16, false))⟩,
      ⟨(some 18), (.val (.load none (.tmp 17))), (some (16, false))⟩,
      ⟨(some 19), (.call (.const (.func 47 [] [])) [(.tmp 18)]), (some (16, false))⟩,
      ⟨(some 20), (.val (.faddr 3 (.tmp 1))), (some (16, false))⟩,
      ⟨(some 21), (.val (.load none (.tmp 20))), (some (16, false))⟩,
      ⟨(some 22), (.val (.eq true (.prim 2) (.tmp 21) (.const (.str [])))), (some (16, false))⟩,
      ⟨(some 23), (.val (.eq true (.prim 0) (.tmp 19) (.tmp 22))), (some (16, false))⟩,
      ⟨(some 24), (.val (.pick (.tmp 16) (.const (.bool true)) (.tmp 23))), none⟩,
      ⟨(some 25), (.val (.mov (.tmp 24))), none⟩,
      ⟨(some 26), (.val (.faddr 3 (.tmp 1))), (some (25, false))⟩,
      ⟨(some 27), (.val (.load none (.tmp 26))), (some (25, false))⟩,
      ⟨(some 28), (.val (.eq true (.prim 2) (.tmp 27) (.const (.str [])))), (some (25, false))⟩,
      ⟨(some 29), (.val (.mov (.tmp 28))), (some (25, false))⟩,
      ⟨(some 30), (.val (.faddr 3 (.tmp 1))), (some (29, true))⟩,
      ⟨(some 31), (.val (.load none (.tmp 30))), (some (29, true))⟩,
      ⟨(some 32), (.call (.const (.func 48 [] [])) [(.tmp 31)]), (some (29, true))⟩,
      ⟨(some 33), (.val (.un .not (.tmp 32))), (some (29, true))⟩,
      ⟨(some 34), (.val (.pick (.tmp 29) (.tmp 33) (.const (.bool false)))), (some (25, false))⟩,
      ⟨(some 35), (.val (.pick (.tmp 25) (.const (.bool true)) (.tmp 34))), none⟩] [(18, 16)])
    (.cond (.tmp 35)
     (.seq
      (.region [⟨(some 2), (.val (.mov (.const (.bool false)))), none⟩])
      .ret)
     .skip))
   (.seq
    (.seq
     (.region [⟨(some 36), (.val (.faddr 0 (.tmp 1))), none⟩,
       ⟨(some 37), (.val (.load none (.tmp 36))), none⟩,
       ⟨(some 38), (.val (.eq false (.prim 1) (.tmp 37) (.const (.int .i64 1)))), none⟩])
     (.cond (.tmp 38)
      (.seq
       (.region [⟨(some 39), (.val (.faddr 2 (.tmp 1))), none⟩,
         ⟨(some 40), (.val (.load none (.tmp 39))), none⟩,
         ⟨(some 41), (.val (.bin .geq (.tmp 40) (.const (.int .i64 0)))), none⟩,
         ⟨(some 2), (.val (.mov (.tmp 41))), none⟩])
       .ret)
      .skip))
    (.seq
     (.seq
      (.region [⟨(some 42), (.val (.faddr 0 (.tmp 1))), none⟩,
        ⟨(some 43), (.val (.load none (.tmp 42))), none⟩,
        ⟨(some 44), (.val (.eq false (.prim 1) (.tmp 43) (.const (.int .i64 2)))), none⟩])
      (.cond (.tmp 44)
       (.seq
        (.region [⟨(some 45), (.val (.faddr 2 (.tmp 1))), none⟩,
          ⟨(some 46), (.val (.load none (.tmp 45))), none⟩,
          ⟨(some 47), (.val (.eq false (.prim 1) (.tmp 46) (.const (.int .i64 0)))), none⟩,
          ⟨(some 48), (.val (.mov (.tmp 47))), none⟩,
          ⟨(some 49), (.val (.faddr 2 (.tmp 1))), (some (48, false))⟩,
          ⟨(some 50), (.val (.load none (.tmp 49))), (some (48, false))⟩,
          ⟨(some 51), (.val (.eq false (.prim 1) (.tmp 50) (.const (.int .i64 1)))), (some (48, false))⟩,
          ⟨(some 52), (.val (.pick (.tmp 48) (.const (.bool true)) (.tmp 51))), none⟩,
          ⟨(some 2), (.val (.mov (.tmp 52))), none⟩])
        .ret)
       .skip))
     (.seq
      (.seq
       (.region [⟨(some 53), (.val (.faddr 0 (.tmp 1))), none⟩,
         ⟨(some 54), (.val (.load none (.tmp 53))), none⟩,
         ⟨(some 55), (.val (.eq false (.prim 1) (.tmp 54) (.const (.int .i64 5)))), none⟩])
       (.cond (.tmp 55)
        (.seq
         (.region [⟨(some 56), (.val (.faddr 2 (.tmp 1))), none⟩,
           ⟨(some 57), (.val (.load none (.tmp 56))), none⟩,
           ⟨(some 58), (.val (.bin .geq (.tmp 57) (.const (.int .i64 1)))), none⟩,
           ⟨(some 59), (.val (.mov (.tmp 58))), none⟩,
           ⟨(some 60), (.val (.faddr 2 (.tmp 1))), (some (59, true))⟩,
           ⟨(some 61), (.val (.load none (.tmp 60))), (some (59, true))⟩,
           ⟨(some 62), (.val (.bin .leq (.tmp 61) (.const (.int .i64 16)))), (some (59, true))⟩,
           ⟨(some 63), (.val (.pick (.tmp 59) (.tmp 62) (.const (.bool false)))), none⟩,
           ⟨(some 2), (.val (.mov (.tmp 63))), none⟩])
         .ret)
        .skip))
      (.seq
       (.seq
        (.region [⟨(some 64), (.val (.faddr 0 (.tmp 1))), none⟩,
          ⟨(some 65), (.val (.load none (.tmp 64))), none⟩,
          ⟨(some 66), (.val (.eq false (.prim 1) (.tmp 65) (.const (.int .i64 24)))), none⟩,
          ⟨(some 67), (.val (.mov (.tmp 66))), none⟩,
          ⟨(some 68), (.val (.faddr 0 (.tmp 1))), (some (67, false))⟩,
          ⟨(some 69), (.val (.load none (.tmp 68))), (some (67, false))⟩,
          ⟨(some 70), (.val (.eq false (.prim 1) (.tmp 69) (.const (.int .i64 25)))), (some (67, false))⟩,
          ⟨(some 71), (.val (.pick (.tmp 67) (.const (.bool true)) (.tmp 70))), none⟩])
        (.cond (.tmp 71)
         (.seq
          (.region [⟨(some 72), (.val (.faddr 2 (.tmp 1))), none⟩,
            ⟨(some 73), (.val (.load none (.tmp 72))), none⟩,
            ⟨(some 74), (.val (.bin .geq (.tmp 73) (.const (.int .i64 1)))), none⟩,
            ⟨(some 75), (.val (.mov (.tmp 74))), none⟩,
            ⟨(some 76), (.val (.faddr 2 (.tmp 1))), (some (75, true))⟩,
            ⟨(some 77), (.val (.load none (.tmp 76))), (some (75, true))⟩,
            ⟨(some 78), (.val (.bin .leq (.tmp 77) (.const (.int .i64 3)))), (some (75, true))⟩,
            ⟨(some 79), (.val (.pick (.tmp 75) (.tmp 78) (.const (.bool false)))), none⟩,
            ⟨(some 2), (.val (.mov (.tmp 79))), none⟩])
          .ret)
         .skip))
       (.seq
        (.region [⟨(some 80), (.val (.faddr 2 (.tmp 1))), none⟩,
          ⟨(some 81), (.val (.load none (.tmp 80))), none⟩,
          ⟨(some 82), (.val (.eq false (.prim 1) (.tmp 81) (.const (.int .i64 0)))), none⟩,
          ⟨(some 2), (.val (.mov (.tmp 82))), none⟩])
        .ret))))))),
 [.tmp 2]⟩
theorem ok35 : cFun Tryd.prog G Tryd.f35 = some F_r06_own := by kernel_rfl

/- balustrade/balustraderef06.kids -/
abbrev n_r06_kids : Nat := 36
def F_r06_kids_l0 : ICode :=
 (.seq
  (.seq
   (.region [⟨(some 117), (.val (.mov (.tmp 6))), none⟩,
     ⟨(some 118), (.val (.mov (.tmp 5))), none⟩,
     ⟨(some 119), (.val (.len (.tmp 118))), none⟩,
     ⟨(some 120), (.val (.bin .lss (.tmp 117) (.tmp 119))), none⟩])
   (.cond (.tmp 120)
    .skip
    (.exit 1)))
  (.seq
   (.block 2
    (.seq
     (.region [⟨(some 123), (.val (.mov (.tmp 0))), none⟩,
       ⟨(some 124), (.val (.mov (.tmp 5))), none⟩,
       ⟨(some 125), (.val (.mov (.tmp 6))), none⟩,
       ⟨(some 126), (.val (.iaddr 1 (.tmp 124) (.tmp 125))), none⟩,
       ⟨(some 127), (.val (.load none (.tmp 126))), none⟩,
       ⟨(some 128), (.val (.iaddr 5 (.tmp 123) (.tmp 127))), none⟩,
       ⟨(some 129), (.val (.faddr 0 (.tmp 128))), none⟩,
       ⟨(some 130), (.val (.load none (.tmp 129))), none⟩,
       ⟨(some 131), (.call (.const (.func 51 [] [])) [(.tmp 130)]), none⟩,
       ⟨(some 132), (.val (.un .not (.tmp 131))), none⟩])
     (.cond (.tmp 132)
      (.seq
       (.region [⟨(some 4), (.val (.mov (.const (.bool false)))), none⟩])
       .ret)
      .skip)))
   (.region [⟨(some 121), (.val (.mov (.tmp 6))), none⟩,
     ⟨(some 122), (.val (.bin .add (.tmp 121) (.const (.int .i64 1)))), none⟩,
     ⟨(some 6), (.val (.mov (.tmp 122))), none⟩])))
def F_r06_kids : IFun :=
 ⟨168,
 (.seq
  (.region [⟨(some 3), (.val (.box 27 (.tmp 1))), none⟩,
    ⟨(some 4), (.val (.mov (.const (.bool false)))), none⟩])
  (.seq
   (.region [⟨(some 7), (.val (.faddr 1 (.tmp 3))), none⟩,
     ⟨(some 8), (.val (.load none (.tmp 7))), none⟩,
     ⟨(some 5), (.val (.mov (.tmp 8))), none⟩])
   (.seq
    (.seq
     (.region [⟨(some 9), (.val (.faddr 0 (.tmp 3))), none⟩,
       ⟨(some 10), (.val (.load none (.tmp 9))), none⟩])
     (.block 0
      (.seq
       (.seq
        (.region [⟨(some 12), (.val (.eq false (.prim 1) (.tmp 10) (.const (.int .i64 5)))), none⟩,
          ⟨(some 11), (.val (.mov (.tmp 12))), none⟩])
        (.cond (.tmp 11)
         .skip
         (.seq
          (.region [⟨(some 13), (.val (.eq false (.prim 1) (.tmp 10) (.const (.int .i64 8)))), none⟩,
            ⟨(some 11), (.val (.mov (.tmp 13))), none⟩])
          (.cond (.tmp 11)
           .skip
           (.region [⟨(some 14), (.val (.eq false (.prim 1) (.tmp 10) (.const (.int .i64 14)))), none⟩,
             ⟨(some 11), (.val (.mov (.tmp 14))), none⟩])))))
       (.cond (.tmp 11)
        (.seq
         (.region [⟨(some 15), (.val (.mov (.tmp 5))), none⟩,
           ⟨(some 16), (.val (.len (.tmp 15))), none⟩,
           ⟨(some 17), (.val (.eq false (.prim 1) (.tmp 16) (.const (.int .i64 2)))), none⟩,
           ⟨(some 18), (.val (.mov (.tmp 17))), none⟩,
           ⟨(some 19), (.val (.mov (.tmp 0))), (some (18, true))⟩,
           ⟨(some 20), (.val (.mov (.tmp 5))), (some (18, true))⟩,
           ⟨(some 21), (.call (.const (.func 49 [] [])) [(.tmp 19), (.tmp 20), (.const (.int .i64 2))]), (some (18, true))⟩,
           ⟨(some 22), (.val (.pick (.tmp 18) (.tmp 21) (.const (.bool false)))), none⟩,
           ⟨(some 4), (.val (.mov (.tmp 22))), none⟩])
         .ret)
        (.seq
         (.seq
          (.region [⟨(some 24), (.val (.eq false (.prim 1) (.tmp 10) (.const (.int .i64 6)))), none⟩,
            ⟨(some 23), (.val (.mov (.tmp 24))), none⟩])
          (.cond (.tmp 23)
           .skip
           (.seq
            (.region [⟨(some 25), (.val (.eq false (.prim 1) (.tmp 10) (.const (.int .i64 7)))), none⟩,
              ⟨(some 23), (.val (.mov (.tmp 25))), none⟩])
            (.cond (.tmp 23)
             .skip
             (.seq
              (.region [⟨(some 26), (.val (.eq false (.prim 1) (.tmp 10) (.const (.int .i64 9)))), none⟩,
                ⟨(some 23), (.val (.mov (.tmp 26))), none⟩])
              (.cond (.tmp 23)
               .skip
               (.seq
                (.region [⟨(some 27), (.val (.eq false (.prim 1) (.tmp 10) (.const (.int .i64 10)))), none⟩,
                  ⟨(some 23), (.val (.mov (.tmp 27))), none⟩])
                (.cond (.tmp 23)
                 .skip
                 (.seq
                  (.region [⟨(some 28), (.val (.eq false (.prim 1) (.tmp 10) (.const (.int .i64 12)))), none⟩,
                    ⟨(some 23), (.val (.mov (.tmp 28))), none⟩])
                  (.cond (.tmp 23)
                   .skip
                   (.seq
                    (.region [⟨(some 29), (.val (.eq false (.prim 1) (.tmp 10) (.const (.int .i64 13)))), none⟩,
                      ⟨(some 23), (.val (.mov (.tmp 29))), none⟩])
                    (.cond (.tmp 23)
                     .skip
                     (.seq
                      (.region [⟨(some 30), (.val (.eq false (.prim 1) (.tmp 10) (.const (.int .i64 20)))), none⟩,
                        ⟨(some 23), (.val (.mov (.tmp 30))), none⟩])
                      (.cond (.tmp 23)
                       .skip
                       (.region [⟨(some 31), (.val (.eq false (.prim 1) (.tmp 10) (.const (.int .i64 21)))), none⟩,
                         ⟨(some 23), (.val (.mov (.tmp 31))), none⟩])))))))))))))))
         (.cond (.tmp 23)
          (.seq
           (.region [⟨(some 32), (.val (.mov (.tmp 5))), none⟩,
             ⟨(some 33), (.val (.len (.tmp 32))), none⟩,
             ⟨(some 34), (.val (.eq false (.prim 1) (.tmp 33) (.const (.int .i64 1)))), none⟩,
             ⟨(some 35), (.val (.mov (.tmp 34))), none⟩,
             ⟨(some 36), (.val (.mov (.tmp 0))), (some (35, true))⟩,
             ⟨(some 37), (.val (.mov (.tmp 5))), (some (35, true))⟩,
             ⟨(some 38), (.call (.const (.func 49 [] [])) [(.tmp 36), (.tmp 37), (.const (.int .i64 1))]), (some (35, true))⟩,
             ⟨(some 39), (.val (.pick (.tmp 35) (.tmp 38) (.const (.bool false)))), none⟩,
             ⟨(some 4), (.val (.mov (.tmp 39))), none⟩])
           .ret)
          (.seq
           (.region [⟨(some 41), (.val (.eq false (.prim 1) (.tmp 10) (.const (.int .i64 11)))), none⟩,
             ⟨(some 40), (.val (.mov (.tmp 41))), none⟩])
           (.cond (.tmp 40)
            (.seq
             (.region [⟨(some 42), (.val (.mov (.tmp 5))), none⟩,
               ⟨(some 43), (.val (.len (.tmp 42))), none⟩,
               ⟨(some 44), (.val (.bin .leq (.tmp 43) (.const (.int .i64 8)))), none⟩,
               ⟨(some 45), (.val (.mov (.tmp 44))), none⟩,
               ⟨(some 46), (.val (.mov (.tmp 0))), (some (45, true))⟩,
               ⟨(some 47), (.val (.mov (.tmp 5))), (some (45, true))⟩,
               ⟨(some 48), (.val (.mov (.tmp 5))), (some (45, true))⟩,
               ⟨(some 49), (.val (.len (.tmp 48))), (some (45, true))⟩,
               ⟨(some 50), (.call (.const (.func 49 [] [])) [(.tmp 46), (.tmp 47), (.tmp 49)]), (some (45, true))⟩,
               ⟨(some 51), (.val (.pick (.tmp 45) (.tmp 50) (.const (.bool false)))), none⟩,
               ⟨(some 4), (.val (.mov (.tmp 51))), none⟩])
             .ret)
            (.seq
             (.region [⟨(some 53), (.val (.eq false (.prim 1) (.tmp 10) (.const (.int .i64 15)))), none⟩,
               ⟨(some 52), (.val (.mov (.tmp 53))), none⟩])
             (.cond (.tmp 52)
              (.seq
               (.region [⟨(some 54), (.val (.mov (.tmp 0))), none⟩,
                 ⟨(some 55), (.val (.mov (.tmp 5))), none⟩,
                 ⟨(some 56), (.call (.const (.func 49 [] [])) [(.tmp 54), (.tmp 55), (.const (.int .i64 1))]), none⟩,
                 ⟨(some 57), (.val (.mov (.tmp 56))), none⟩,
                 ⟨(some 58), (.val (.mov (.tmp 5))), (some (57, true))⟩,
                 ⟨(some 59), (.val (.len (.tmp 58))), (some (57, true))⟩,
                 ⟨(some 60), (.val (.bin .geq (.tmp 59) (.const (.int .i64 2)))), (some (57, true))⟩,
                 ⟨(some 61), (.val (.pick (.tmp 57) (.tmp 60) (.const (.bool false)))), none⟩,
                 ⟨(some 62), (.val (.mov (.tmp 61))), none⟩,
                 ⟨(some 63), (.val (.mov (.tmp 0))), (some (62, true))⟩,
                 ⟨(some 64), (.val (.mov (.tmp 5))), (some (62, true))⟩,
                 ⟨(some 65), (.val (.slsl 1 (.tmp 64) (some (.const (.int .i64 1))) none none)), (some (62, true))⟩,
                 ⟨(some 66), (.call (.const (.func 50 [] [])) [(.tmp 63), (.tmp 65), (.const (.int .i64 23)), (.const (.int .i64 2))]), (some (62, true))⟩,
                 ⟨(some 67), (.val (.pick (.tmp 62) (.tmp 66) (.const (.bool false)))), none⟩,
                 ⟨(some 4), (.val (.mov (.tmp 67))), none⟩])
               .ret)
              (.seq
               (.region [⟨(some 69), (.val (.eq false (.prim 1) (.tmp 10) (.const (.int .i64 16)))), none⟩,
                 ⟨(some 68), (.val (.mov (.tmp 69))), none⟩])
               (.cond (.tmp 68)
                (.seq
                 (.region [⟨(some 70), (.val (.mov (.tmp 0))), none⟩,
                   ⟨(some 71), (.val (.mov (.tmp 5))), none⟩,
                   ⟨(some 72), (.call (.const (.func 49 [] [])) [(.tmp 70), (.tmp 71), (.const (.int .i64 1))]), none⟩,
                   ⟨(some 73), (.val (.mov (.tmp 72))), none⟩,
                   ⟨(some 74), (.val (.mov (.tmp 5))), (some (73, true))⟩,
                   ⟨(some 75), (.val (.len (.tmp 74))), (some (73, true))⟩,
                   ⟨(some 76), (.val (.eq false (.prim 1) (.tmp 75) (.const (.int .i64 2)))), (some (73, true))⟩,
                   ⟨(some 77), (.val (.pick (.tmp 73) (.tmp 76) (.const (.bool false)))), none⟩,
                   ⟨(some 78), (.val (.mov (.tmp 77))), none⟩,
                   ⟨(some 79), (.val (.mov (.tmp 0))), (some (78, true))⟩,
                   ⟨(some 80), (.val (.mov (.tmp 5))), (some (78, true))⟩,
                   ⟨(some 81), (.val (.slsl 1 (.tmp 80) (some (.const (.int .i64 1))) none none)), (some (78, true))⟩,
                   ⟨(some 82), (.call (.const (.func 50 [] [])) [(.tmp 79), (.tmp 81), (.const (.int .i64 23)), (.const (.int .i64 1))]), (some (78, true))⟩,
                   ⟨(some 83), (.val (.pick (.tmp 78) (.tmp 82) (.const (.bool false)))), none⟩,
                   ⟨(some 4), (.val (.mov (.tmp 83))), none⟩])
                 .ret)
                (.seq
                 (.region [⟨(some 85), (.val (.eq false (.prim 1) (.tmp 10) (.const (.int .i64 17)))), none⟩,
                   ⟨(some 84), (.val (.mov (.tmp 85))), none⟩])
                 (.cond (.tmp 84)
                  (.seq
                   (.region [⟨(some 86), (.val (.mov (.tmp 0))), none⟩,
                     ⟨(some 87), (.val (.mov (.tmp 5))), none⟩,
                     ⟨(some 88), (.call (.const (.func 49 [] [])) [(.tmp 86), (.tmp 87), (.const (.int .i64 2))]), none⟩,
                     ⟨(some 89), (.val (.mov (.tmp 88))), none⟩,
                     ⟨(some 90), (.val (.mov (.tmp 5))), (some (89, true))⟩,
                     ⟨(some 91), (.val (.len (.tmp 90))), (some (89, true))⟩,
                     ⟨(some 92), (.val (.eq false (.prim 1) (.tmp 91) (.const (.int .i64 3)))), (some (89, true))⟩,
                     ⟨(some 93), (.val (.pick (.tmp 89) (.tmp 92) (.const (.bool false)))), none⟩,
                     ⟨(some 94), (.val (.mov (.tmp 93))), none⟩,
                     ⟨(some 95), (.val (.mov (.tmp 0))), (some (94, true))⟩,
                     ⟨(some 96), (.val (.mov (.tmp 5))), (some (94, true))⟩,
                     ⟨(some 97), (.val (.slsl 1 (.tmp 96) (some (.const (.int .i64 2))) none none)), (some (94, true))⟩,
                     ⟨(some 98), (.call (.const (.func 50 [] [])) [(.tmp 95), (.tmp 97), (.const (.int .i64 23)), (.const (.int .i64 1))]), (some (94, true))⟩,
                     ⟨(some 99), (.val (.pick (.tmp 94) (.tmp 98) (.const (.bool false)))), none⟩,
                     ⟨(some 4), (.val (.mov (.tmp 99))), none⟩])
                   .ret)
                  (.seq
                   (.region [⟨(some 101), (.val (.eq false (.prim 1) (.tmp 10) (.const (.int .i64 22)))), none⟩,
                     ⟨(some 100), (.val (.mov (.tmp 101))), none⟩])
                   (.cond (.tmp 100)
                    (.seq
                     (.region [⟨(some 102), (.val (.mov (.tmp 5))), none⟩,
                       ⟨(some 103), (.val (.len (.tmp 102))), none⟩,
                       ⟨(some 104), (.val (.eq false (.prim 1) (.tmp 103) (.const (.int .i64 1)))), none⟩,
                       ⟨(some 105), (.val (.mov (.tmp 104))), none⟩,
                       ⟨(some 106), (.val (.mov (.tmp 0))), (some (105, true))⟩,
                       ⟨(some 107), (.val (.mov (.tmp 5))), (some (105, true))⟩,
                       ⟨(some 108), (.val (.iaddr 1 (.tmp 107) (.const (.int .i64 0)))), (some (105, true))⟩,
                       ⟨(some 109), (.val (.load none (.tmp 108))), (some (105, true))⟩,
                       ⟨(some 110), (.val (.iaddr 5 (.tmp 106) (.tmp 109))), (some (105, true))⟩,
                       ⟨(some 111), (.val (.faddr 0 (.tmp 110))), (some (105, true))⟩,
                       ⟨(some 112), (.val (.load none (.tmp 111))), (some (105, true))⟩,
                       ⟨(some 113), (.val (.eq false (.prim 1) (.tmp 112) (.const (.int .i64 11)))), (some (105, true))⟩,
                       ⟨(some 114), (.val (.pick (.tmp 105) (.tmp 113) (.const (.bool false)))), none⟩,
                       ⟨(some 4), (.val (.mov (.tmp 114))), none⟩])
                     .ret)
                    (.seq
                     (.region [⟨(some 116), (.val (.eq false (.prim 1) (.tmp 10) (.const (.int .i64 23)))), none⟩,
                       ⟨(some 115), (.val (.mov (.tmp 116))), none⟩])
                     (.cond (.tmp 115)
                      (.seq
                       (.seq
                        (.region [⟨(some 6), (.val (.mov (.const (.int .i64 0)))), none⟩])
                        (.block 1
                         (.loop F_r06_kids_l0)))
                       (.seq
                        (.region [⟨(some 4), (.val (.mov (.const (.bool true)))), none⟩])
                        .ret))
                      (.seq
                       (.region [⟨(some 134), (.val (.eq false (.prim 1) (.tmp 10) (.const (.int .i64 25)))), none⟩,
                         ⟨(some 133), (.val (.mov (.tmp 134))), none⟩])
                       (.cond (.tmp 133)
                        (.seq
                         (.region [⟨(some 135), (.val (.mov (.tmp 5))), none⟩,
                           ⟨(some 136), (.val (.len (.tmp 135))), none⟩,
                           ⟨(some 137), (.val (.bin .geq (.tmp 136) (.const (.int .i64 1)))), none⟩,
                           ⟨(some 138), (.val (.mov (.tmp 137))), none⟩,
                           ⟨(some 139), (.val (.mov (.tmp 0))), (some (138, true))⟩,
                           ⟨(some 140), (.val (.mov (.tmp 5))), (some (138, true))⟩,
                           ⟨(some 141), (.val (.mov (.tmp 5))), (some (138, true))⟩,
                           ⟨(some 142), (.val (.len (.tmp 141))), (some (138, true))⟩,
                           ⟨(some 143), (.val (.bin .sub (.tmp 142) (.const (.int .i64 1)))), (some (138, true))⟩,
                           ⟨(some 144), (.val (.slsl 1 (.tmp 140) none (some (.tmp 143)) none)), (some (138, true))⟩,
                           ⟨(some 145), (.call (.const (.func 50 [] [])) [(.tmp 139), (.tmp 144), (.const (.int .i64 24)), (.const (.int .i64 8))]), (some (138, true))⟩,
                           ⟨(some 146), (.val (.pick (.tmp 138) (.tmp 145) (.const (.bool false)))), none⟩,
                           ⟨(some 147), (.val (.mov (.tmp 146))), none⟩,
                           ⟨(some 148), (.val (.mov (.tmp 0))), (some (147, true))⟩,
                           ⟨(some 149), (.val (.mov (.tmp 5))), (some (147, true))⟩,
                           ⟨(some 150), (.val (.mov (.tmp 5))), (some (147, true))⟩,
                           ⟨(some 151), (.val (.len (.tmp 150))), (some (147, true))⟩,
                           ⟨(some 152), (.val (.bin .sub (.tmp 151) (.const (.int .i64 1)))), (some (147, true))⟩,
                           ⟨(some 153), (.val (.iaddr 1 (.tmp 149) (.tmp 152))), (some (147, true))⟩,
                           ⟨(some 154), (.val (.load none (.tmp 153))), (some (147, true))⟩,
                           ⟨(some 155), (.val (.iaddr 5 (.tmp 148) (.tmp 154))), (some (147, true))⟩,
                           ⟨(some 156), (.val (.faddr 0 (.tmp 155))), (some (147, true))⟩,
                           ⟨(some 157), (.val (.load none (.tmp 156))), (some (147, true))⟩,
                           ⟨(some 158), (.val (.eq false (.prim 1) (.tmp 157) (.const (.int .i64 23)))), (some (147, true))⟩,
                           ⟨(some 159), (.val (.pick (.tmp 147) (.tmp 158) (.const (.bool false)))), none⟩,
                           ⟨(some 4), (.val (.mov (.tmp 159))), none⟩])
                         .ret)
                        (.seq
                         (.region [⟨(some 161), (.val (.eq false (.prim 1) (.tmp 10) (.const (.int .i64 26)))), none⟩,
                           ⟨(some 160), (.val (.mov (.tmp 161))), none⟩])
                         (.cond (.tmp 160)
                          (.seq
                           (.region [⟨(some 162), (.val (.mov (.tmp 0))), none⟩,
                             ⟨(some 163), (.val (.mov (.tmp 5))), none⟩,
                             ⟨(some 164), (.call (.const (.func 50 [] [])) [(.tmp 162), (.tmp 163), (.const (.int .i64 25)), (.const (.int .i64 200))]), none⟩,
                             ⟨(some 4), (.val (.mov (.tmp 164))), none⟩])
                           .ret)
                          .skip))))))))))))))))))))))
    (.seq
     (.region [⟨(some 165), (.val (.mov (.tmp 5))), none⟩,
       ⟨(some 166), (.val (.len (.tmp 165))), none⟩,
       ⟨(some 167), (.val (.eq false (.prim 1) (.tmp 166) (.const (.int .i64 0)))), none⟩,
       ⟨(some 4), (.val (.mov (.tmp 167))), none⟩])
     .ret)))),
 [.tmp 4]⟩
theorem ok36 : cFun Tryd.prog G Tryd.f36 = some F_r06_kids := by kernel_rfl

/- balustrade/tree.has -/
abbrev n_tree_has : Nat := 37
def F_tree_has_l0 : ICode :=
 (.seq
  (.region [⟨(some 75), (.val (.bin .lss (.tmp 74) (.tmp 73))), none⟩])
  (.seq
   (.cond (.tmp 75)
    .skip
    (.exit 0))
   (.seq
    (.block 1
     (.seq
      (.region [⟨(some 76), (.val (.iaddr 1 (.tmp 72) (.tmp 74))), none⟩,
        ⟨(some 77), (.val (.load none (.tmp 76))), none⟩,
        ⟨(some 10), (.val (.mov (.tmp 77))), none⟩])
      (.seq
       (.draw [⟨(some 78), (.val (.mov (.tmp 0))), none⟩,
         ⟨(some 79), (.val (.mov (.tmp 10))), none⟩,
         ⟨(some 80), (.val (.iaddr 5 (.tmp 78) (.tmp 79))), none⟩,
         ⟨(some 81), (.val (.faddr 0 (.tmp 80))), none⟩,
         ⟨(some 82), (.val (.load none (.tmp 81))), none⟩,
         ⟨(some 83), (.val (.faddr 5 (.tmp 5))), none⟩,
         ⟨(some 84), (.val (.load none (.tmp 83))), none⟩,
         ⟨(some 85), (.call (.const (.func 53 [] [])) [(.tmp 82), (.tmp 84)]), none⟩,
         ⟨(some 86), (.val (.un .not (.tmp 85))), none⟩] [])
       (.cond (.tmp 86)
        (.seq
         (.region [⟨(some 4), (.val (.mov (.const (.bool false)))), none⟩])
         .ret)
        .skip))))
    (.region [⟨(some 87), (.val (.bin .add (.tmp 74) (.const (.int .i64 1)))), none⟩,
      ⟨(some 74), (.val (.mov (.tmp 87))), none⟩]))))
def F_tree_has_l1 : ICode :=
 (.seq
  (.region [⟨(some 118), (.val (.bin .lss (.tmp 117) (.tmp 116))), none⟩])
  (.seq
   (.cond (.tmp 118)
    .skip
    (.exit 2))
   (.seq
    (.block 3
     (.seq
      (.region [⟨(some 119), (.val (.mov (.tmp 117))), none⟩,
        ⟨(some 120), (.val (.iaddr 1 (.tmp 115) (.tmp 117))), none⟩,
        ⟨(some 121), (.val (.load none (.tmp 120))), none⟩,
        ⟨(some 11), (.val (.mov (.tmp 119))), none⟩,
        ⟨(some 12), (.val (.mov (.tmp 121))), none⟩])
      (.seq
       (.draw [⟨(some 122), (.val (.mov (.tmp 0))), none⟩,
         ⟨(some 123), (.val (.mov (.tmp 12))), none⟩,
         ⟨(some 124), (.val (.iaddr 5 (.tmp 122) (.tmp 123))), none⟩,
         ⟨(some 125), (.val (.faddr 0 (.tmp 124))), none⟩,
         ⟨(some 126), (.val (.load none (.tmp 125))), none⟩,
         ⟨(some 127), (.val (.faddr 6 (.tmp 5))), none⟩,
         ⟨(some 128), (.val (.load none (.tmp 127))), none⟩,
         ⟨(some 129), (.val (.mov (.tmp 11))), none⟩,
         ⟨(some 130), (.val (.iaddr 1 (.tmp 128) (.tmp 129))), none⟩,
         ⟨(some 131), (.val (.load none (.tmp 130))), none⟩,
         ⟨(some 132), (.call (.const (.func 53 [] [])) [(.tmp 126), (.tmp 131)]), none⟩,
         ⟨(some 133), (.val (.un .not (.tmp 132))), none⟩] [])
       (.cond (.tmp 133)
        (.seq
         (.region [⟨(some 4), (.val (.mov (.const (.bool false)))), none⟩])
         .ret)
        .skip))))
    (.region [⟨(some 134), (.val (.bin .add (.tmp 117) (.const (.int .i64 1)))), none⟩,
      ⟨(some 117), (.val (.mov (.tmp 134))), none⟩]))))
def F_tree_has : IFun :=
 ⟨135,
 (.seq
  (.region [⟨(some 3), (.val (.box 27 (.tmp 1))), none⟩,
    ⟨(some 4), (.val (.mov (.const (.bool false)))), none⟩])
  (.seq
   (.region [⟨(some 14), (.val (.faddr 0 (.tmp 3))), none⟩,
     ⟨(some 15), (.val (.load none (.tmp 14))), none⟩,
     ⟨(some 16), (.call (.const (.func 30 [] [])) [(.tmp 15)]), none⟩,
     ⟨(some 13), (.val (.mov (.tmp 16))), none⟩,
     ⟨(some 17), (.val (.extract (.tmp 13) 0)), none⟩,
     ⟨(some 18), (.val (.extract (.tmp 13) 1)), none⟩,
     ⟨(some 5), (.val (.alloc 45 [(.str []), (.bool false), (.int .i64 0), (.int .i64 0), (.int .i64 0), (.int .i64 0), .nilslice, (.bool false)])), none⟩,
     ⟨none, (.val (.store 8 (.tmp 5) (.tmp 17))), none⟩,
     ⟨(some 6), (.val (.mov (.tmp 18))), none⟩])
   (.seq
    (.seq
     (.region [⟨(some 19), (.val (.mov (.tmp 6))), none⟩,
       ⟨(some 20), (.val (.un .not (.tmp 19))), none⟩,
       ⟨(some 21), (.val (.mov (.tmp 20))), none⟩,
       ⟨(some 22), (.val (.faddr 4 (.tmp 3))), (some (21, false))⟩,
       ⟨(some 23), (.val (.load none (.tmp 22))), (some (21, false))⟩,
       ⟨(some 24), (.val (.bin .lss (.tmp 23) (.const (.int .i64 0)))), (some (21, false))⟩,
       ⟨(some 25), (.val (.pick (.tmp 21) (.const (.bool true)) (.tmp 24))), none⟩,
       ⟨(some 26), (.val (.mov (.tmp 25))), none⟩,
       ⟨(some 27), (.val (.faddr 2 (.tmp 3))), (some (26, false))⟩,
       ⟨(some 28), (.val (.load none (.tmp 27))), (some (26, false))⟩,
       ⟨(some 29), (.val (.faddr 2 (.tmp 5))), (some (26, false))⟩,
       ⟨(some 30), (.val (.load none (.tmp 29))), (some (26, false))⟩,
       ⟨(some 31), (.val (.bin .lss (.tmp 28) (.tmp 30))), (some (26, false))⟩,
       ⟨(some 32), (.val (.pick (.tmp 26) (.const (.bool true)) (.tmp 31))), none⟩,
       ⟨(some 33), (.val (.mov (.tmp 32))), none⟩,
       ⟨(some 34), (.val (.faddr 2 (.tmp 3))), (some (33, false))⟩,
       ⟨(some 35), (.val (.load none (.tmp 34))), (some (33, false))⟩,
       ⟨(some 36), (.val (.faddr 3 (.tmp 5))), (some (33, false))⟩,
       ⟨(some 37), (.val (.load none (.tmp 36))), (some (33, false))⟩,
       ⟨(some 38), (.val (.bin .gtr (.tmp 35) (.tmp 37))), (some (33, false))⟩,
       ⟨(some 39), (.val (.pick (.tmp 33) (.const (.bool true)) (.tmp 38))), none⟩,
       ⟨(some 40), (.val (.mov (.tmp 39))), none⟩,
       ⟨(some 41), (.val (.faddr 1 (.tmp 5))), (some (40, false))⟩,
       ⟨(some 42), (.val (.load none (.tmp 41))), (some (40, false))⟩,
       ⟨(some 43), (.val (.faddr 3 (.tmp 3))), (some (40, false))⟩,
       ⟨(some 44), (.val (.load none (.tmp 43))), (some (40, false))⟩,
       ⟨(some 45), (.val (.eq true (.prim 2) (.tmp 44) (.const (.str [])))), (some (40, false))⟩,
       ⟨(some 46), (.val (.eq true (.prim 0) (.tmp 42) (.tmp 45))), (some (40, false))⟩,
       ⟨(some 47), (.val (.pick (.tmp 40) (.const (.bool true)) (.tmp 46))), none⟩,
       ⟨(some 48), (.val (.mov (.tmp 47))), none⟩,
       ⟨(some 49), (.val (.faddr 1 (.tmp 5))), (some (48, false))⟩,
       ⟨(some 50), (.val (.load none (.tmp 49))), (some (48, false))⟩,
       ⟨(some 51), (.val (.mov (.tmp 50))), (some (48, false))⟩,
       ⟨(some 52), (.val (.faddr 3 (.tmp 3))), (some (51, true))⟩,
       ⟨(some 53), (.val (.load none (.tmp 52))), (some (51, true))⟩,
       ⟨(some 54), (.call (.const (.func 52 [] [])) [(.tmp 53)]), (some (51, true))⟩,
       ⟨(some 55), (.val (.un .not (.tmp 54))), (some (51, true))⟩,
       ⟨(some 56), (.val (.pick (.tmp 51) (.tmp 55) (.const (.bool false)))), (some (48, false))⟩,
       ⟨(some 57), (.val (.pick (.tmp 48) (.const (.bool true)) (.tmp 56))), none⟩])
     (.cond (.tmp 57)
      (.seq
       (.region [⟨(some 4), (.val (.mov (.const (.bool false)))), none⟩])
       .ret)
      .skip))
    (.seq
     (.region [⟨(some 58), (.val (.faddr 1 (.tmp 3))), none⟩,
       ⟨(some 59), (.val (.load none (.tmp 58))), none⟩,
       ⟨(some 7), (.val (.mov (.tmp 59))), none⟩])
     (.seq
      (.seq
       (.region [⟨(some 60), (.val (.faddr 4 (.tmp 5))), none⟩,
         ⟨(some 61), (.val (.load none (.tmp 60))), none⟩,
         ⟨(some 62), (.val (.bin .gtr (.tmp 61) (.const (.int .i64 0)))), none⟩])
       (.cond (.tmp 62)
        (.seq
         (.region [⟨(some 63), (.val (.mov (.tmp 7))), none⟩,
           ⟨(some 64), (.val (.len (.tmp 63))), none⟩,
           ⟨(some 65), (.val (.faddr 6 (.tmp 5))), none⟩,
           ⟨(some 66), (.val (.load none (.tmp 65))), none⟩,
           ⟨(some 67), (.val (.len (.tmp 66))), none⟩,
           ⟨(some 68), (.val (.bin .sub (.tmp 64) (.tmp 67))), none⟩,
           ⟨(some 69), (.val (.max [(.const (.int .i64 0)), (.tmp 68)])), none⟩,
           ⟨(some 8), (.val (.mov (.tmp 69))), none⟩])
         (.seq
          (.seq
           (.region [⟨(some 70), (.val (.mov (.tmp 7))), none⟩,
             ⟨(some 71), (.val (.mov (.tmp 8))), none⟩,
             ⟨(some 72), (.val (.slsl 1 (.tmp 70) none (some (.tmp 71)) none)), none⟩,
             ⟨(some 73), (.val (.len (.tmp 72))), none⟩,
             ⟨(some 74), (.val (.mov (.const (.int .i64 0)))), none⟩])
           (.block 0
            (.loop F_tree_has_l0)))
          (.seq
           (.seq
            (.region [⟨(some 88), (.val (.mov (.tmp 8))), none⟩,
              ⟨(some 89), (.val (.faddr 4 (.tmp 5))), none⟩,
              ⟨(some 90), (.val (.load none (.tmp 89))), none⟩,
              ⟨(some 91), (.val (.bin .gtr (.tmp 88) (.tmp 90))), none⟩])
            (.cond (.tmp 91)
             (.seq
              (.region [⟨(some 4), (.val (.mov (.const (.bool false)))), none⟩])
              .ret)
             .skip))
           (.region [⟨(some 92), (.val (.mov (.tmp 7))), none⟩,
             ⟨(some 93), (.val (.mov (.tmp 8))), none⟩,
             ⟨(some 94), (.val (.slsl 1 (.tmp 92) (some (.tmp 93)) none none)), none⟩,
             ⟨(some 7), (.val (.mov (.tmp 94))), none⟩]))))
        .skip))
      (.seq
       (.seq
        (.region [⟨(some 95), (.val (.mov (.tmp 7))), none⟩,
          ⟨(some 96), (.val (.len (.tmp 95))), none⟩,
          ⟨(some 97), (.val (.faddr 6 (.tmp 5))), none⟩,
          ⟨(some 98), (.val (.load none (.tmp 97))), none⟩,
          ⟨(some 99), (.val (.len (.tmp 98))), none⟩,
          ⟨(some 100), (.val (.eq true (.prim 1) (.tmp 96) (.tmp 99))), none⟩,
          ⟨(some 101), (.val (.mov (.tmp 100))), none⟩,
          ⟨(some 102), (.val (.faddr 7 (.tmp 5))), (some (101, true))⟩,
          ⟨(some 103), (.val (.load none (.tmp 102))), (some (101, true))⟩,
          ⟨(some 104), (.val (.mov (.tmp 103))), (some (101, true))⟩,
          ⟨(some 105), (.val (.mov (.tmp 7))), (some (104, true))⟩,
          ⟨(some 106), (.val (.len (.tmp 105))), (some (104, true))⟩,
          ⟨(some 107), (.val (.faddr 6 (.tmp 5))), (some (104, true))⟩,
          ⟨(some 108), (.val (.load none (.tmp 107))), (some (104, true))⟩,
          ⟨(some 109), (.val (.len (.tmp 108))), (some (104, true))⟩,
          ⟨(some 110), (.val (.bin .sub (.tmp 109) (.const (.int .i64 1)))), (some (104, true))⟩,
          ⟨(some 111), (.val (.eq false (.prim 1) (.tmp 106) (.tmp 110))), (some (104, true))⟩,
          ⟨(some 112), (.val (.pick (.tmp 104) (.tmp 111) (.const (.bool false)))), (some (101, true))⟩,
          ⟨(some 113), (.val (.un .not (.tmp 112))), (some (101, true))⟩,
          ⟨(some 114), (.val (.pick (.tmp 101) (.tmp 113) (.const (.bool false)))), none⟩])
        (.cond (.tmp 114)
         (.seq
          (.region [⟨(some 4), (.val (.mov (.const (.bool false)))), none⟩])
          .ret)
         .skip))
       (.seq
        (.seq
         (.region [⟨(some 115), (.val (.mov (.tmp 7))), none⟩,
           ⟨(some 116), (.val (.len (.tmp 115))), none⟩,
           ⟨(some 117), (.val (.mov (.const (.int .i64 0)))), none⟩])
         (.block 2
          (.loop F_tree_has_l1)))
        (.seq
         (.region [⟨(some 4), (.val (.mov (.const (.bool true)))), none⟩])
         .ret)))))))),
 [.tmp 4]⟩
theorem ok37 : cFun Tryd.prog G Tryd.f37 = some F_tree_has := by kernel_rfl

/- slices.Contains[[]bool,bool] -/
abbrev n_slices_Contains_bool : Nat := 38
def F_slices_Contains_bool : IFun :=
 ⟨9,
 (.seq
  (.region [⟨(some 4), (.val (.mov (.const (.bool false)))), none⟩])
  (.seq
   (.region [⟨(some 5), (.val (.mov (.tmp 0))), none⟩,
     ⟨(some 6), (.val (.mov (.tmp 1))), none⟩,
     ⟨(some 7), (.call (.const (.func 54 [] [])) [(.tmp 5), (.tmp 6)]), none⟩,
     ⟨(some 8), (.val (.bin .geq (.tmp 7) (.const (.int .i64 0)))), none⟩,
     ⟨(some 4), (.val (.mov (.tmp 8))), none⟩])
   .ret)),
 [.tmp 4]⟩
theorem ok38 : cFun Tryd.prog G Tryd.f38 = some F_slices_Contains_bool := by kernel_rfl

/- balustrade/balustradebase.Itoa -/
abbrev n_base_Itoa : Nat := 39
def F_base_Itoa_l0 : ICode :=
 (.seq
  (.seq
   (.region [⟨(some 9), (.val (.mov (.tmp 4))), none⟩,
     ⟨(some 10), (.val (.eq true (.prim 1) (.tmp 9) (.const (.int .i64 0)))), none⟩])
   (.cond (.tmp 10)
    .skip
    (.exit 0)))
  (.block 1
   (.seq
    (.region [⟨(some 11), (.val (.mov (.tmp 4))), none⟩,
      ⟨(some 12), (.val (.bin .rem (.tmp 11) (.const (.int .i64 10)))), none⟩,
      ⟨(some 5), (.val (.mov (.tmp 12))), none⟩])
    (.seq
     (.seq
      (.region [⟨(some 13), (.val (.mov (.tmp 5))), none⟩,
        ⟨(some 14), (.val (.bin .lss (.tmp 13) (.const (.int .i64 0)))), none⟩])
      (.cond (.tmp 14)
       (.region [⟨(some 15), (.val (.mov (.tmp 5))), none⟩,
         ⟨(some 16), (.val (.un .neg (.tmp 15))), none⟩,
         ⟨(some 5), (.val (.mov (.tmp 16))), none⟩])
       .skip))
     (.seq
      (.region [⟨(some 17), (.val (.mov (.tmp 5))), none⟩,
        ⟨(some 18), (.val (.bin .add (.const (.int .i64 48)) (.tmp 17))), none⟩,
        ⟨(some 19), (.val (.conv (.int .u8) (.tmp 18))), none⟩,
        ⟨(some 20), (.val (.bslice 5 1 1 [(.int .u8 0)] [(0, (.tmp 19))])), none⟩,
        ⟨(some 21), (.val (.conv .text (.tmp 20))), none⟩,
        ⟨(some 22), (.val (.mov (.tmp 3))), none⟩,
        ⟨(some 23), (.val (.bin .add (.tmp 21) (.tmp 22))), none⟩,
        ⟨(some 3), (.val (.mov (.tmp 23))), none⟩])
      (.region [⟨(some 24), (.val (.mov (.tmp 4))), none⟩,
        ⟨(some 25), (.val (.bin .quo (.tmp 24) (.const (.int .i64 10)))), none⟩,
        ⟨(some 4), (.val (.mov (.tmp 25))), none⟩]))))))
def F_base_Itoa : IFun :=
 ⟨31,
 (.seq
  (.region [⟨(some 2), (.val (.mov (.const (.str [])))), none⟩])
  (.seq
   (.seq
    (.region [⟨(some 6), (.val (.mov (.tmp 0))), none⟩,
      ⟨(some 7), (.val (.eq false (.prim 1) (.tmp 6) (.const (.int .i64 0)))), none⟩])
    (.cond (.tmp 7)
     (.seq
      (.region [⟨(some 2), (.val (.mov (.const (.str [48])))), none⟩])
      .ret)
     .skip))
   (.seq
    (.region [⟨(some 8), (.val (.mov (.tmp 0))), none⟩,
      ⟨(some 3), (.val (.mov (.const (.str [])))), none⟩,
      ⟨(some 4), (.val (.mov (.tmp 8))), none⟩])
    (.seq
     (.block 0
      (.loop F_base_Itoa_l0))
     (.seq
      (.seq
       (.region [⟨(some 26), (.val (.mov (.tmp 0))), none⟩,
         ⟨(some 27), (.val (.bin .lss (.tmp 26) (.const (.int .i64 0)))), none⟩])
       (.cond (.tmp 27)
        (.region [⟨(some 28), (.val (.mov (.tmp 3))), none⟩,
          ⟨(some 29), (.val (.bin .add (.const (.str [45])) (.tmp 28))), none⟩,
          ⟨(some 3), (.val (.mov (.tmp 29))), none⟩])
        .skip))
      (.seq
       (.region [⟨(some 30), (.val (.mov (.tmp 3))), none⟩,
         ⟨(some 2), (.val (.mov (.tmp 30))), none⟩])
       .ret)))))),
 [.tmp 2]⟩
theorem ok39 : cFun Tryd.prog G Tryd.f39 = some F_base_Itoa := by kernel_rfl

/- balustrade/balustraderef06.word -/
abbrev n_r06_word : Nat := 40
def F_r06_word : IFun :=
 ⟨20,
 (.seq
  (.region [⟨(some 1), (.val (.box 27 (.tmp 0))), none⟩,
    ⟨(some 2), (.val (.mov (.const (.str [])))), none⟩])
  (.seq
   (.region [⟨(some 4), (.val (.bslice 9 1 26 [(.str [])] [(0, (.const (.str []))), (1, (.const (.str []))), (2, (.const (.str [110, 105, 108]))), (3, (.const (.str []))), (4, (.const (.str []))), (5, (.const (.str [110, 101, 103]))), (6, (.const (.str [110, 111, 116]))), (7, (.const (.str [97, 116]))), (8, (.const (.str [108, 101, 110]))), (9, (.const (.str [110, 101, 119]))), (10, (.const (.str [99, 97, 108, 108]))), (11, (.const (.str [118, 97, 114]))), (12, (.const (.str [115, 101, 116]))), (13, (.const (.str [112, 117, 116]))), (14, (.const (.str [105, 102]))), (15, (.const (.str [119, 104, 105, 108, 101]))), (16, (.const (.str [102, 111, 114]))), (17, (.const (.str [98, 114, 101, 97, 107]))), (18, (.const (.str [99, 111, 110, 116, 105, 110, 117, 101]))), (19, (.const (.str [114, 101, 116, 117, 114, 110]))), (20, (.const (.str [112, 114, 105, 110, 116]))), (21, (.const (.str [100, 111]))), (22, (.const (.str [98, 108, 111, 99, 107]))), (23, (.const (.str []))), (24, (.const (.str [102, 110]))), (25, (.const (.str [112, 114, 111, 103])))])), none⟩,
     ⟨(some 3), (.val (.mov (.tmp 4))), none⟩])
   (.seq
    (.seq
     (.region [⟨(some 5), (.val (.faddr 0 (.tmp 1))), none⟩,
       ⟨(some 6), (.val (.load none (.tmp 5))), none⟩,
       ⟨(some 7), (.val (.eq false (.prim 1) (.tmp 6) (.const (.int .i64 5)))), none⟩])
     (.cond (.tmp 7)
      (.seq
       (.draw [⟨(some 8), (.call (.const (.func 20 [] [])) []), none⟩,
         ⟨(some 9), (.val (.faddr 2 (.tmp 1))), none⟩,
         ⟨(some 10), (.val (.load none (.tmp 9))), none⟩,
         ⟨(some 11), (.val (.bin .sub (.tmp 10) (.const (.int .i64 1)))), none⟩,
         ⟨(some 12), (.val (.iaddr 1 (.tmp 8) (.tmp 11))), none⟩,
         ⟨(some 13), (.val (.load none (.tmp 12))), none⟩,
         ⟨(some 2), (.val (.mov (.tmp 13))), none⟩] [(2, 0)])
       .ret)
      .skip))
    (.seq
     (.region [⟨(some 14), (.val (.mov (.tmp 3))), none⟩,
       ⟨(some 15), (.val (.faddr 0 (.tmp 1))), none⟩,
       ⟨(some 16), (.val (.load none (.tmp 15))), none⟩,
       ⟨(some 17), (.val (.bin .sub (.tmp 16) (.const (.int .i64 1)))), none⟩,
       ⟨(some 18), (.val (.iaddr 1 (.tmp 14) (.tmp 17))), none⟩,
       ⟨(some 19), (.val (.load none (.tmp 18))), none⟩,
       ⟨(some 2), (.val (.mov (.tmp 19))), none⟩])
     .ret)))),
 [.tmp 2]⟩
theorem ok40 : cFun Tryd.prog G Tryd.f40 = some F_r06_word := by kernel_rfl

/- slices.Index[[]string,string] -/
abbrev n_slices_Index_string : Nat := 41
def F_slices_Index_string_l0 : ICode :=
 (.seq
  (.region [⟨(some 9), (.val (.bin .lss (.tmp 8) (.tmp 7))), none⟩])
  (.seq
   (.cond (.tmp 9)
    .skip
    (.exit 0))
   (.seq
    (.block 1
     (.seq
      (.region [⟨(some 10), (.val (.mov (.tmp 8))), none⟩,
        ⟨(some 5), (.val (.mov (.tmp 10))), none⟩])
      (.seq
       (.region [⟨(some 11), (.val (.mov (.tmp 1))), none⟩,
         ⟨(some 12), (.val (.mov (.tmp 0))), none⟩,
         ⟨(some 13), (.val (.mov (.tmp 5))), none⟩,
         ⟨(some 14), (.val (.iaddr 1 (.tmp 12) (.tmp 13))), none⟩,
         ⟨(some 15), (.val (.load none (.tmp 14))), none⟩,
         ⟨(some 16), (.val (.eq false (.prim 2) (.tmp 11) (.tmp 15))), none⟩])
       (.cond (.tmp 16)
        (.seq
         (.region [⟨(some 17), (.val (.mov (.tmp 5))), none⟩,
           ⟨(some 4), (.val (.mov (.tmp 17))), none⟩])
         .ret)
        .skip))))
    (.region [⟨(some 18), (.val (.bin .add (.tmp 8) (.const (.int .i64 1)))), none⟩,
      ⟨(some 8), (.val (.mov (.tmp 18))), none⟩]))))
def F_slices_Index_string : IFun :=
 ⟨19,
 (.seq
  (.region [⟨(some 4), (.val (.mov (.const (.int .i64 0)))), none⟩])
  (.seq
   (.seq
    (.region [⟨(some 6), (.val (.mov (.tmp 0))), none⟩,
      ⟨(some 7), (.val (.len (.tmp 6))), none⟩,
      ⟨(some 8), (.val (.mov (.const (.int .i64 0)))), none⟩])
    (.block 0
     (.loop F_slices_Index_string_l0)))
   (.seq
    (.region [⟨(some 4), (.val (.mov (.const (.int .i64 (-1))))), none⟩])
    .ret))),
 [.tmp 4]⟩
theorem ok41 : cFun Tryd.prog G Tryd.f41 = some F_slices_Index_string := by kernel_rfl

/- internal/strconv.Itoa -/
abbrev n_internal_strconv_Itoa : Nat := 42
def F_internal_strconv_Itoa : IFun :=
 ⟨5,
 (.seq
  (.region [⟨(some 2), (.val (.mov (.const (.str [])))), none⟩])
  (.seq
   (.region [⟨(some 3), (.val (.mov (.tmp 0))), none⟩,
     ⟨(some 4), (.call (.const (.func 55 [] [])) [(.tmp 3), (.const (.int .i64 10))]), none⟩,
     ⟨(some 2), (.val (.mov (.tmp 4))), none⟩])
   .ret)),
 [.tmp 2]⟩
theorem ok42 : cFun Tryd.prog G Tryd.f42 = some F_internal_strconv_Itoa := by kernel_rfl

/- internal/strconv.FormatBool -/
abbrev n_internal_strconv_FormatBool : Nat := 43
def F_internal_strconv_FormatBool : IFun :=
 ⟨4,
 (.seq
  (.region [⟨(some 2), (.val (.mov (.const (.str [])))), none⟩])
  (.seq
   (.seq
    (.region [⟨(some 3), (.val (.mov (.tmp 0))), none⟩])
    (.cond (.tmp 3)
     (.seq
      (.region [⟨(some 2), (.val (.mov (.const (.str [116, 114, 117, 101])))), none⟩])
      .ret)
     .skip))
   (.seq
    (.region [⟨(some 2), (.val (.mov (.const (.str [102, 97, 108, 115, 101])))), none⟩])
    .ret))),
 [.tmp 2]⟩
theorem ok43 : cFun Tryd.prog G Tryd.f43 = some F_internal_strconv_FormatBool := by kernel_rfl

/- (*strings.Builder).Grow -/
abbrev n_strings_Builder_Grow : Nat := 44
def F_strings_Builder_Grow : IFun :=
 ⟨25,
 (.seq
  (.region [⟨(some 4), (.val (.mov (.tmp 0))), none⟩,
    ⟨(some 5), (.call (.const (.func 56 [] [])) [(.tmp 4)]), none⟩])
  (.seq
   (.seq
    (.region [⟨(some 6), (.val (.mov (.tmp 1))), none⟩,
      ⟨(some 7), (.val (.bin .lss (.tmp 6) (.const (.int .i64 0)))), none⟩])
    (.cond (.tmp 7)
     (.region [⟨(some 8), (.val (.iface 9 (.const (.str [115, 116, 114, 105, 110, 103, 115, 46, 66, 117, 105, 108, 100, 101, 114, 46, 71, 114, 111, 119, 58, 32, 110, 101, 103, 97, 116, 105, 118, 101, 32, 99, 111, 117, 110, 116])))), none⟩,
       ⟨none, (.panic (.tmp 8)), none⟩])
     .skip))
   (.seq
    (.draw [⟨(some 9), (.val (.mov (.tmp 0))), none⟩,
      ⟨(some 10), (.val (.nilck (.tmp 9))), none⟩,
      ⟨(some 11), (.val (.faddr 1 (.tmp 10))), none⟩,
      ⟨(some 12), (.val (.load none (.tmp 11))), none⟩,
      ⟨(some 13), (.val (.cap (.tmp 12))), none⟩,
      ⟨(some 14), (.val (.mov (.tmp 0))), none⟩,
      ⟨(some 15), (.val (.nilck (.tmp 14))), none⟩,
      ⟨(some 16), (.val (.faddr 1 (.tmp 15))), none⟩,
      ⟨(some 17), (.val (.load none (.tmp 16))), none⟩,
      ⟨(some 18), (.val (.len (.tmp 17))), none⟩,
      ⟨(some 19), (.val (.bin .sub (.tmp 13) (.tmp 18))), none⟩,
      ⟨(some 20), (.val (.mov (.tmp 1))), none⟩,
      ⟨(some 21), (.val (.bin .lss (.tmp 19) (.tmp 20))), none⟩] [])
    (.cond (.tmp 21)
     (.region [⟨(some 22), (.val (.mov (.tmp 0))), none⟩,
       ⟨(some 23), (.val (.mov (.tmp 1))), none⟩,
       ⟨(some 24), (.call (.const (.func 57 [] [])) [(.tmp 22), (.tmp 23)]), none⟩])
     .skip)))),
 []⟩
theorem ok44 : cFun Tryd.prog G Tryd.f44 = some F_strings_Builder_Grow := by kernel_rfl

/- (*strings.Builder).WriteString -/
abbrev n_strings_Builder_WriteString : Nat := 45
def F_strings_Builder_WriteString : IFun :=
 ⟨19,
 (.seq
  (.region [⟨(some 4), (.val (.mov (.const (.int .i64 0)))), none⟩,
    ⟨(some 5), (.val (.mov (.const .niliface))), none⟩])
  (.seq
   (.region [⟨(some 6), (.val (.mov (.tmp 0))), none⟩,
     ⟨(some 7), (.call (.const (.func 56 [] [])) [(.tmp 6)]), none⟩])
   (.seq
    (.region [⟨(some 8), (.val (.mov (.tmp 0))), none⟩,
      ⟨(some 9), (.val (.mov (.tmp 0))), none⟩,
      ⟨(some 10), (.val (.nilck (.tmp 9))), none⟩,
      ⟨(some 11), (.val (.faddr 1 (.tmp 10))), none⟩,
      ⟨(some 12), (.val (.load none (.tmp 11))), none⟩,
      ⟨(some 13), (.val (.mov (.tmp 1))), none⟩,
      ⟨(some 14), (.val (.append 5 1 1 (.tmp 12) (.tmp 13))), none⟩,
      ⟨(some 15), (.val (.nilck (.tmp 8))), none⟩,
      ⟨(some 16), (.val (.faddr 1 (.tmp 15))), none⟩,
      ⟨none, (.val (.store 1 (.tmp 16) (.tmp 14))), none⟩])
    (.seq
     (.region [⟨(some 17), (.val (.mov (.tmp 1))), none⟩,
       ⟨(some 18), (.val (.lenstr (.tmp 17))), none⟩,
       ⟨(some 4), (.val (.mov (.tmp 18))), none⟩,
       ⟨(some 5), (.val (.mov (.const .niliface))), none⟩])
     .ret)))),
 [.tmp 4, .tmp 5]⟩
theorem ok45 : cFun Tryd.prog G Tryd.f45 = some F_strings_Builder_WriteString := by kernel_rfl

/- balustrade/balustraderef06.named -/
abbrev n_r06_named : Nat := 47
def F_r06_named : IFun :=
 ⟨6,
 (.seq
  (.region [⟨(some 2), (.val (.mov (.const (.bool false)))), none⟩])
  (.seq
   (.region [⟨(some 3), (.val (.bslice 3 1 8 [(.int .i64 0)] [(0, (.const (.int .i64 4))), (1, (.const (.int .i64 11))), (2, (.const (.int .i64 12))), (3, (.const (.int .i64 13))), (4, (.const (.int .i64 14))), (5, (.const (.int .i64 17))), (6, (.const (.int .i64 24))), (7, (.const (.int .i64 25)))])), none⟩,
     ⟨(some 4), (.val (.mov (.tmp 0))), none⟩,
     ⟨(some 5), (.call (.const (.func 34 [] [])) [(.tmp 3), (.tmp 4)]), none⟩,
     ⟨(some 2), (.val (.mov (.tmp 5))), none⟩])
   .ret)),
 [.tmp 2]⟩
theorem ok47 : cFun Tryd.prog G Tryd.f47 = some F_r06_named := by kernel_rfl

end Go.Proofs.YtblcomejcahkdaaDoor.Ev
end
section
namespace Go.Proofs.YtblcomejcahkdaaDoor.Ev
open Go

/- balustrade/balustraderef05.Name -/
abbrev n_r05_Name : Nat := 48
def F_r05_Name_l0 : ICode :=
 (.seq
  (.seq
   (.region [⟨(some 4), (.val (.mov (.tmp 3))), none⟩,
     ⟨(some 5), (.val (.mov (.tmp 0))), none⟩,
     ⟨(some 6), (.val (.lenstr (.tmp 5))), none⟩,
     ⟨(some 7), (.val (.bin .lss (.tmp 4) (.tmp 6))), none⟩])
   (.cond (.tmp 7)
    .skip
    (.exit 0)))
  (.seq
   (.block 1
    (.seq
     (.region [⟨(some 10), (.val (.mov (.tmp 0))), none⟩,
       ⟨(some 11), (.val (.mov (.tmp 3))), none⟩,
       ⟨(some 12), (.val (.idxstr (.tmp 10) (.tmp 11))), none⟩,
       ⟨(some 13), (.call (.const (.func 58 [] [])) [(.tmp 12)]), none⟩,
       ⟨(some 14), (.val (.un .not (.tmp 13))), none⟩,
       ⟨(some 15), (.val (.mov (.tmp 14))), none⟩,
       ⟨(some 16), (.val (.mov (.tmp 3))), (some (15, true))⟩,
       ⟨(some 17), (.val (.eq false (.prim 1) (.tmp 16) (.const (.int .i64 0)))), (some (15, true))⟩,
       ⟨(some 18), (.val (.mov (.tmp 17))), (some (15, true))⟩,
       ⟨(some 19), (.val (.mov (.tmp 0))), (some (18, false))⟩,
       ⟨(some 20), (.val (.mov (.tmp 3))), (some (18, false))⟩,
       ⟨(some 21), (.val (.idxstr (.tmp 19) (.tmp 20))), (some (18, false))⟩,
       ⟨(some 22), (.call (.const (.func 59 [] [])) [(.tmp 21)]), (some (18, false))⟩,
       ⟨(some 23), (.val (.un .not (.tmp 22))), (some (18, false))⟩,
       ⟨(some 24), (.val (.pick (.tmp 18) (.const (.bool true)) (.tmp 23))), (some (15, true))⟩,
       ⟨(some 25), (.val (.pick (.tmp 15) (.tmp 24) (.const (.bool false)))), none⟩])
     (.cond (.tmp 25)
      (.seq
       (.region [⟨(some 2), (.val (.mov (.const (.bool false)))), none⟩])
       .ret)
      .skip)))
   (.region [⟨(some 8), (.val (.mov (.tmp 3))), none⟩,
     ⟨(some 9), (.val (.bin .add (.tmp 8) (.const (.int .i64 1)))), none⟩,
     ⟨(some 3), (.val (.mov (.tmp 9))), none⟩])))
def F_r05_Name : IFun :=
 ⟨39,
 (.seq
  (.region [⟨(some 2), (.val (.mov (.const (.bool false)))), none⟩])
  (.seq
   (.seq
    (.region [⟨(some 3), (.val (.mov (.const (.int .i64 0)))), none⟩])
    (.block 0
     (.loop F_r05_Name_l0)))
   (.seq
    (.region [⟨(some 26), (.val (.mov (.tmp 0))), none⟩,
      ⟨(some 27), (.val (.lenstr (.tmp 26))), none⟩,
      ⟨(some 28), (.val (.bin .gtr (.tmp 27) (.const (.int .i64 0)))), none⟩,
      ⟨(some 29), (.val (.mov (.tmp 28))), none⟩,
      ⟨(some 30), (.val (.mov (.tmp 0))), (some (29, true))⟩,
      ⟨(some 31), (.val (.lenstr (.tmp 30))), (some (29, true))⟩,
      ⟨(some 32), (.val (.bin .leq (.tmp 31) (.const (.int .i64 32)))), (some (29, true))⟩,
      ⟨(some 33), (.val (.pick (.tmp 29) (.tmp 32) (.const (.bool false)))), none⟩,
      ⟨(some 34), (.val (.mov (.tmp 33))), none⟩,
      ⟨(some 35), (.val (.mov (.tmp 0))), (some (34, true))⟩,
      ⟨(some 36), (.call (.const (.func 60 [] [])) [(.tmp 35)]), (some (34, true))⟩,
      ⟨(some 37), (.val (.un .not (.tmp 36))), (some (34, true))⟩,
      ⟨(some 38), (.val (.pick (.tmp 34) (.tmp 37) (.const (.bool false)))), none⟩,
      ⟨(some 2), (.val (.mov (.tmp 38))), none⟩])
    .ret))),
 [.tmp 2]⟩
theorem ok48 : cFun Tryd.prog G Tryd.f48 = some F_r05_Name := by kernel_rfl

/- balustrade/balustraderef06.exprs -/
abbrev n_r06_exprs : Nat := 49
def F_r06_exprs_l0 : ICode :=
 (.seq
  (.seq
   (.region [⟨(some 12), (.val (.mov (.tmp 7))), none⟩,
     ⟨(some 13), (.val (.mov (.tmp 2))), none⟩,
     ⟨(some 14), (.val (.bin .lss (.tmp 12) (.tmp 13))), none⟩])
   (.cond (.tmp 14)
    .skip
    (.exit 0)))
  (.seq
   (.block 1
    (.seq
     (.region [⟨(some 17), (.val (.mov (.tmp 0))), none⟩,
       ⟨(some 18), (.val (.mov (.tmp 1))), none⟩,
       ⟨(some 19), (.val (.mov (.tmp 7))), none⟩,
       ⟨(some 20), (.val (.iaddr 1 (.tmp 18) (.tmp 19))), none⟩,
       ⟨(some 21), (.val (.load none (.tmp 20))), none⟩,
       ⟨(some 22), (.val (.iaddr 5 (.tmp 17) (.tmp 21))), none⟩,
       ⟨(some 23), (.val (.faddr 0 (.tmp 22))), none⟩,
       ⟨(some 24), (.val (.load none (.tmp 23))), none⟩,
       ⟨(some 25), (.call (.const (.func 61 [] [])) [(.tmp 24)]), none⟩,
       ⟨(some 26), (.val (.un .not (.tmp 25))), none⟩])
     (.cond (.tmp 26)
      (.seq
       (.region [⟨(some 6), (.val (.mov (.const (.bool false)))), none⟩])
       .ret)
      .skip)))
   (.region [⟨(some 15), (.val (.mov (.tmp 7))), none⟩,
     ⟨(some 16), (.val (.bin .add (.tmp 15) (.const (.int .i64 1)))), none⟩,
     ⟨(some 7), (.val (.mov (.tmp 16))), none⟩])))
def F_r06_exprs : IFun :=
 ⟨27,
 (.seq
  (.region [⟨(some 6), (.val (.mov (.const (.bool false)))), none⟩])
  (.seq
   (.seq
    (.region [⟨(some 8), (.val (.mov (.tmp 1))), none⟩,
      ⟨(some 9), (.val (.len (.tmp 8))), none⟩,
      ⟨(some 10), (.val (.mov (.tmp 2))), none⟩,
      ⟨(some 11), (.val (.bin .lss (.tmp 9) (.tmp 10))), none⟩])
    (.cond (.tmp 11)
     (.seq
      (.region [⟨(some 6), (.val (.mov (.const (.bool false)))), none⟩])
      .ret)
     .skip))
   (.seq
    (.seq
     (.region [⟨(some 7), (.val (.mov (.const (.int .i64 0)))), none⟩])
     (.block 0
      (.loop F_r06_exprs_l0)))
    (.seq
     (.region [⟨(some 6), (.val (.mov (.const (.bool true)))), none⟩])
     .ret)))),
 [.tmp 6]⟩
theorem ok49 : cFun Tryd.prog G Tryd.f49 = some F_r06_exprs := by kernel_rfl

/- balustrade/balustraderef06.all -/
abbrev n_r06_all : Nat := 50
def F_r06_all_l0 : ICode :=
 (.seq
  (.seq
   (.region [⟨(some 10), (.val (.mov (.tmp 9))), none⟩,
     ⟨(some 11), (.val (.mov (.tmp 1))), none⟩,
     ⟨(some 12), (.val (.len (.tmp 11))), none⟩,
     ⟨(some 13), (.val (.bin .lss (.tmp 10) (.tmp 12))), none⟩])
   (.cond (.tmp 13)
    .skip
    (.exit 0)))
  (.seq
   (.block 1
    (.seq
     (.region [⟨(some 16), (.val (.mov (.tmp 0))), none⟩,
       ⟨(some 17), (.val (.mov (.tmp 1))), none⟩,
       ⟨(some 18), (.val (.mov (.tmp 9))), none⟩,
       ⟨(some 19), (.val (.iaddr 1 (.tmp 17) (.tmp 18))), none⟩,
       ⟨(some 20), (.val (.load none (.tmp 19))), none⟩,
       ⟨(some 21), (.val (.iaddr 5 (.tmp 16) (.tmp 20))), none⟩,
       ⟨(some 22), (.val (.faddr 0 (.tmp 21))), none⟩,
       ⟨(some 23), (.val (.load none (.tmp 22))), none⟩,
       ⟨(some 24), (.val (.mov (.tmp 2))), none⟩,
       ⟨(some 25), (.val (.eq true (.prim 1) (.tmp 23) (.tmp 24))), none⟩])
     (.cond (.tmp 25)
      (.seq
       (.region [⟨(some 8), (.val (.mov (.const (.bool false)))), none⟩])
       .ret)
      .skip)))
   (.region [⟨(some 14), (.val (.mov (.tmp 9))), none⟩,
     ⟨(some 15), (.val (.bin .add (.tmp 14) (.const (.int .i64 1)))), none⟩,
     ⟨(some 9), (.val (.mov (.tmp 15))), none⟩])))
def F_r06_all : IFun :=
 ⟨30,
 (.seq
  (.region [⟨(some 8), (.val (.mov (.const (.bool false)))), none⟩])
  (.seq
   (.seq
    (.region [⟨(some 9), (.val (.mov (.const (.int .i64 0)))), none⟩])
    (.block 0
     (.loop F_r06_all_l0)))
   (.seq
    (.region [⟨(some 26), (.val (.mov (.tmp 1))), none⟩,
      ⟨(some 27), (.val (.len (.tmp 26))), none⟩,
      ⟨(some 28), (.val (.mov (.tmp 3))), none⟩,
      ⟨(some 29), (.val (.bin .leq (.tmp 27) (.tmp 28))), none⟩,
      ⟨(some 8), (.val (.mov (.tmp 29))), none⟩])
    .ret))),
 [.tmp 8]⟩
theorem ok50 : cFun Tryd.prog G Tryd.f50 = some F_r06_all := by kernel_rfl

/- balustrade/balustraderef06.Stmt -/
abbrev n_r06_Stmt : Nat := 51
def F_r06_Stmt : IFun :=
 ⟨9,
 (.seq
  (.region [⟨(some 2), (.val (.mov (.const (.bool false)))), none⟩])
  (.seq
   (.region [⟨(some 3), (.val (.mov (.tmp 0))), none⟩,
     ⟨(some 4), (.val (.bin .geq (.tmp 3) (.const (.int .i64 12)))), none⟩,
     ⟨(some 5), (.val (.mov (.tmp 4))), none⟩,
     ⟨(some 6), (.val (.mov (.tmp 0))), (some (5, true))⟩,
     ⟨(some 7), (.val (.bin .leq (.tmp 6) (.const (.int .i64 22)))), (some (5, true))⟩,
     ⟨(some 8), (.val (.pick (.tmp 5) (.tmp 7) (.const (.bool false)))), none⟩,
     ⟨(some 2), (.val (.mov (.tmp 8))), none⟩])
   .ret)),
 [.tmp 2]⟩
theorem ok51 : cFun Tryd.prog G Tryd.f51 = some F_r06_Stmt := by kernel_rfl

/- balustrade/tree.name -/
abbrev n_tree_name : Nat := 52
def F_tree_name_l0 : ICode :=
 (.seq
  (.region [⟨(some 10), (.val (.bin .lss (.tmp 9) (.tmp 8))), none⟩])
  (.seq
   (.cond (.tmp 10)
    .skip
    (.exit 0))
   (.seq
    (.block 1
     (.seq
      (.region [⟨(some 11), (.val (.mov (.tmp 9))), none⟩,
        ⟨(some 12), (.val (.iaddr 1 (.tmp 7) (.tmp 9))), none⟩,
        ⟨(some 13), (.val (.load none (.tmp 12))), none⟩,
        ⟨(some 3), (.val (.mov (.tmp 11))), none⟩,
        ⟨(some 4), (.val (.mov (.tmp 13))), none⟩])
      (.seq
       (.region [⟨(some 14), (.val (.mov (.tmp 4))), none⟩,
         ⟨(some 15), (.val (.bin .or (.tmp 14) (.const (.int .u8 32)))), none⟩,
         ⟨(some 16), (.val (.bin .geq (.tmp 15) (.const (.int .u8 97)))), none⟩,
         ⟨(some 17), (.val (.mov (.tmp 16))), none⟩,
         ⟨(some 18), (.val (.mov (.tmp 4))), (some (17, true))⟩,
         ⟨(some 19), (.val (.bin .or (.tmp 18) (.const (.int .u8 32)))), (some (17, true))⟩,
         ⟨(some 20), (.val (.bin .leq (.tmp 19) (.const (.int .u8 122)))), (some (17, true))⟩,
         ⟨(some 21), (.val (.pick (.tmp 17) (.tmp 20) (.const (.bool false)))), none⟩,
         ⟨(some 22), (.val (.mov (.tmp 21))), none⟩,
         ⟨(some 23), (.val (.mov (.tmp 4))), (some (22, false))⟩,
         ⟨(some 24), (.val (.eq false (.prim 1) (.tmp 23) (.const (.int .u8 95)))), (some (22, false))⟩,
         ⟨(some 25), (.val (.pick (.tmp 22) (.const (.bool true)) (.tmp 24))), none⟩,
         ⟨(some 5), (.val (.mov (.tmp 25))), none⟩])
       (.seq
        (.region [⟨(some 26), (.val (.mov (.tmp 5))), none⟩,
          ⟨(some 27), (.val (.un .not (.tmp 26))), none⟩,
          ⟨(some 28), (.val (.mov (.tmp 27))), none⟩,
          ⟨(some 29), (.val (.mov (.tmp 3))), (some (28, true))⟩,
          ⟨(some 30), (.val (.eq false (.prim 1) (.tmp 29) (.const (.int .i64 0)))), (some (28, true))⟩,
          ⟨(some 31), (.val (.mov (.tmp 30))), (some (28, true))⟩,
          ⟨(some 32), (.val (.mov (.tmp 4))), (some (31, false))⟩,
          ⟨(some 33), (.val (.bin .lss (.tmp 32) (.const (.int .u8 48)))), (some (31, false))⟩,
          ⟨(some 34), (.val (.pick (.tmp 31) (.const (.bool true)) (.tmp 33))), (some (28, true))⟩,
          ⟨(some 35), (.val (.mov (.tmp 34))), (some (28, true))⟩,
          ⟨(some 36), (.val (.mov (.tmp 4))), (some (35, false))⟩,
          ⟨(some 37), (.val (.bin .gtr (.tmp 36) (.const (.int .u8 57)))), (some (35, false))⟩,
          ⟨(some 38), (.val (.pick (.tmp 35) (.const (.bool true)) (.tmp 37))), (some (28, true))⟩,
          ⟨(some 39), (.val (.pick (.tmp 28) (.tmp 38) (.const (.bool false)))), none⟩])
        (.cond (.tmp 39)
         (.seq
          (.region [⟨(some 2), (.val (.mov (.const (.bool false)))), none⟩])
          .ret)
         .skip)))))
    (.region [⟨(some 40), (.val (.bin .add (.tmp 9) (.const (.int .i64 1)))), none⟩,
      ⟨(some 9), (.val (.mov (.tmp 40))), none⟩]))))
def F_tree_name : IFun :=
 ⟨54,
 (.seq
  (.region [⟨(some 2), (.val (.mov (.const (.bool false)))), none⟩])
  (.seq
   (.seq
    (.region [⟨(some 6), (.val (.mov (.tmp 0))), none⟩,
      ⟨(some 7), (.val (.conv (.bytes 5) (.tmp 6))), none⟩,
      ⟨(some 8), (.val (.len (.tmp 7))), none⟩,
      ⟨(some 9), (.val (.mov (.const (.int .i64 0)))), none⟩])
    (.block 0
     (.loop F_tree_name_l0)))
   (.seq
    (.region [⟨(some 41), (.val (.mov (.tmp 0))), none⟩,
      ⟨(some 42), (.val (.eq true (.prim 2) (.tmp 41) (.const (.str [])))), none⟩,
      ⟨(some 43), (.val (.mov (.tmp 42))), none⟩,
      ⟨(some 44), (.val (.mov (.tmp 0))), (some (43, true))⟩,
      ⟨(some 45), (.val (.lenstr (.tmp 44))), (some (43, true))⟩,
      ⟨(some 46), (.val (.bin .leq (.tmp 45) (.const (.int .i64 32)))), (some (43, true))⟩,
      ⟨(some 47), (.val (.pick (.tmp 43) (.tmp 46) (.const (.bool false)))), none⟩,
      ⟨(some 48), (.val (.mov (.tmp 47))), none⟩,
      ⟨(some 49), (.val (.load none (.const (.ptr 1 0)))), (some (48, true))⟩,
      ⟨(some 50), (.val (.mov (.tmp 0))), (some (48, true))⟩,
      ⟨(some 51), (.call (.const (.func 62 [] [])) [(.tmp 49), (.tmp 50)]), (some (48, true))⟩,
      ⟨(some 52), (.val (.un .not (.tmp 51))), (some (48, true))⟩,
      ⟨(some 53), (.val (.pick (.tmp 48) (.tmp 52) (.const (.bool false)))), none⟩,
      ⟨(some 2), (.val (.mov (.tmp 53))), none⟩])
    .ret))),
 [.tmp 2]⟩
theorem ok52 : cFun Tryd.prog G Tryd.f52 = some F_tree_name := by kernel_rfl

/- balustrade/tree.is -/
abbrev n_tree_is : Nat := 53
def F_tree_is : IFun :=
 ⟨36,
 (.seq
  (.region [⟨(some 4), (.val (.mov (.const (.bool false)))), none⟩])
  (.seq
   (.seq
    (.region [⟨(some 5), (.val (.mov (.tmp 1))), none⟩])
    (.block 0
     (.seq
      (.region [⟨(some 7), (.val (.eq false (.prim 1) (.tmp 5) (.const (.int .i64 0)))), none⟩,
        ⟨(some 6), (.val (.mov (.tmp 7))), none⟩])
      (.cond (.tmp 6)
       (.seq
        (.region [⟨(some 8), (.val (.mov (.tmp 0))), none⟩,
          ⟨(some 9), (.val (.bin .geq (.tmp 8) (.const (.int .i64 1)))), none⟩,
          ⟨(some 10), (.val (.mov (.tmp 9))), none⟩,
          ⟨(some 11), (.val (.mov (.tmp 0))), (some (10, true))⟩,
          ⟨(some 12), (.val (.bin .leq (.tmp 11) (.const (.int .i64 11)))), (some (10, true))⟩,
          ⟨(some 13), (.val (.pick (.tmp 10) (.tmp 12) (.const (.bool false)))), none⟩,
          ⟨(some 4), (.val (.mov (.tmp 13))), none⟩])
        .ret)
       (.seq
        (.region [⟨(some 15), (.val (.eq false (.prim 1) (.tmp 5) (.const (.int .i64 1)))), none⟩,
          ⟨(some 14), (.val (.mov (.tmp 15))), none⟩])
        (.cond (.tmp 14)
         (.seq
          (.region [⟨(some 16), (.val (.mov (.tmp 0))), none⟩,
            ⟨(some 17), (.val (.bin .geq (.tmp 16) (.const (.int .i64 12)))), none⟩,
            ⟨(some 18), (.val (.mov (.tmp 17))), none⟩,
            ⟨(some 19), (.val (.mov (.tmp 0))), (some (18, true))⟩,
            ⟨(some 20), (.val (.bin .leq (.tmp 19) (.const (.int .i64 22)))), (some (18, true))⟩,
            ⟨(some 21), (.val (.pick (.tmp 18) (.tmp 20) (.const (.bool false)))), none⟩,
            ⟨(some 4), (.val (.mov (.tmp 21))), none⟩])
          .ret)
         (.seq
          (.region [⟨(some 23), (.val (.eq false (.prim 1) (.tmp 5) (.const (.int .i64 2)))), none⟩,
            ⟨(some 22), (.val (.mov (.tmp 23))), none⟩])
          (.cond (.tmp 22)
           (.seq
            (.region [⟨(some 24), (.val (.mov (.tmp 0))), none⟩,
              ⟨(some 25), (.val (.eq false (.prim 1) (.tmp 24) (.const (.int .i64 23)))), none⟩,
              ⟨(some 4), (.val (.mov (.tmp 25))), none⟩])
            .ret)
           (.seq
            (.region [⟨(some 27), (.val (.eq false (.prim 1) (.tmp 5) (.const (.int .i64 3)))), none⟩,
              ⟨(some 26), (.val (.mov (.tmp 27))), none⟩])
            (.cond (.tmp 26)
             (.seq
              (.region [⟨(some 28), (.val (.mov (.tmp 0))), none⟩,
                ⟨(some 29), (.val (.eq false (.prim 1) (.tmp 28) (.const (.int .i64 11)))), none⟩,
                ⟨(some 4), (.val (.mov (.tmp 29))), none⟩])
              .ret)
             (.seq
              (.region [⟨(some 31), (.val (.eq false (.prim 1) (.tmp 5) (.const (.int .i64 4)))), none⟩,
                ⟨(some 30), (.val (.mov (.tmp 31))), none⟩])
              (.cond (.tmp 30)
               (.seq
                (.region [⟨(some 32), (.val (.mov (.tmp 0))), none⟩,
                  ⟨(some 33), (.val (.eq false (.prim 1) (.tmp 32) (.const (.int .i64 24)))), none⟩,
                  ⟨(some 4), (.val (.mov (.tmp 33))), none⟩])
                .ret)
               .skip))))))))))))
   (.seq
    (.region [⟨(some 34), (.val (.mov (.tmp 0))), none⟩,
      ⟨(some 35), (.val (.eq false (.prim 1) (.tmp 34) (.const (.int .i64 25)))), none⟩,
      ⟨(some 4), (.val (.mov (.tmp 35))), none⟩])
    .ret))),
 [.tmp 4]⟩
theorem ok53 : cFun Tryd.prog G Tryd.f53 = some F_tree_is := by kernel_rfl

/- slices.Index[[]bool,bool] -/
abbrev n_slices_Index_bool : Nat := 54
def F_slices_Index_bool_l0 : ICode :=
 (.seq
  (.region [⟨(some 9), (.val (.bin .lss (.tmp 8) (.tmp 7))), none⟩])
  (.seq
   (.cond (.tmp 9)
    .skip
    (.exit 0))
   (.seq
    (.block 1
     (.seq
      (.region [⟨(some 10), (.val (.mov (.tmp 8))), none⟩,
        ⟨(some 5), (.val (.mov (.tmp 10))), none⟩])
      (.seq
       (.region [⟨(some 11), (.val (.mov (.tmp 1))), none⟩,
         ⟨(some 12), (.val (.mov (.tmp 0))), none⟩,
         ⟨(some 13), (.val (.mov (.tmp 5))), none⟩,
         ⟨(some 14), (.val (.iaddr 1 (.tmp 12) (.tmp 13))), none⟩,
         ⟨(some 15), (.val (.load none (.tmp 14))), none⟩,
         ⟨(some 16), (.val (.eq false (.prim 0) (.tmp 11) (.tmp 15))), none⟩])
       (.cond (.tmp 16)
        (.seq
         (.region [⟨(some 17), (.val (.mov (.tmp 5))), none⟩,
           ⟨(some 4), (.val (.mov (.tmp 17))), none⟩])
         .ret)
        .skip))))
    (.region [⟨(some 18), (.val (.bin .add (.tmp 8) (.const (.int .i64 1)))), none⟩,
      ⟨(some 8), (.val (.mov (.tmp 18))), none⟩]))))
def F_slices_Index_bool : IFun :=
 ⟨19,
 (.seq
  (.region [⟨(some 4), (.val (.mov (.const (.int .i64 0)))), none⟩])
  (.seq
   (.seq
    (.region [⟨(some 6), (.val (.mov (.tmp 0))), none⟩,
      ⟨(some 7), (.val (.len (.tmp 6))), none⟩,
      ⟨(some 8), (.val (.mov (.const (.int .i64 0)))), none⟩])
    (.block 0
     (.loop F_slices_Index_bool_l0)))
   (.seq
    (.region [⟨(some 4), (.val (.mov (.const (.int .i64 (-1))))), none⟩])
    .ret))),
 [.tmp 4]⟩
theorem ok54 : cFun Tryd.prog G Tryd.f54 = some F_slices_Index_bool := by kernel_rfl

/- internal/strconv.FormatInt -/
abbrev n_internal_strconv_FormatInt : Nat := 55
def F_internal_strconv_FormatInt : IFun :=
 ⟨54,
 (.seq
  (.region [⟨(some 4), (.val (.mov (.const (.str [])))), none⟩])
  (.seq
   (.seq
    (.region [⟨(some 10), (.val (.mov (.tmp 1))), none⟩,
      ⟨(some 11), (.val (.eq false (.prim 1) (.tmp 10) (.const (.int .i64 10)))), none⟩])
    (.cond (.tmp 11)
     (.seq
      (.seq
       (.region [⟨(some 12), (.val (.mov (.tmp 0))), none⟩,
         ⟨(some 13), (.val (.bin .leq (.const (.int .i64 0)) (.tmp 12))), none⟩,
         ⟨(some 14), (.val (.mov (.tmp 13))), none⟩,
         ⟨(some 15), (.val (.mov (.tmp 0))), (some (14, true))⟩,
         ⟨(some 16), (.val (.bin .lss (.tmp 15) (.const (.int .i64 100)))), (some (14, true))⟩,
         ⟨(some 17), (.val (.pick (.tmp 14) (.tmp 16) (.const (.bool false)))), none⟩])
       (.cond (.tmp 17)
        (.seq
         (.region [⟨(some 18), (.val (.mov (.tmp 0))), none⟩,
           ⟨(some 19), (.call (.const (.func 63 [] [])) [(.tmp 18)]), none⟩,
           ⟨(some 4), (.val (.mov (.tmp 19))), none⟩])
         .ret)
        .skip))
      (.seq
       (.region [⟨(some 5), (.val (.alloc 78 [(.int .u8 0), (.int .u8 0), (.int .u8 0), (.int .u8 0), (.int .u8 0), (.int .u8 0), (.int .u8 0), (.int .u8 0), (.int .u8 0), (.int .u8 0), (.int .u8 0), (.int .u8 0), (.int .u8 0), (.int .u8 0), (.int .u8 0), (.int .u8 0), (.int .u8 0), (.int .u8 0), (.int .u8 0), (.int .u8 0), (.int .u8 0), (.int .u8 0), (.int .u8 0), (.int .u8 0)])), none⟩])
       (.seq
        (.region [⟨(some 20), (.val (.mov (.tmp 0))), none⟩,
          ⟨(some 21), (.val (.conv (.int .u64) (.tmp 20))), none⟩,
          ⟨(some 6), (.val (.mov (.tmp 21))), none⟩])
        (.seq
         (.seq
          (.region [⟨(some 22), (.val (.mov (.tmp 0))), none⟩,
            ⟨(some 23), (.val (.bin .lss (.tmp 22) (.const (.int .i64 0)))), none⟩])
          (.cond (.tmp 23)
           (.region [⟨(some 24), (.val (.mov (.tmp 6))), none⟩,
             ⟨(some 25), (.val (.un .neg (.tmp 24))), none⟩,
             ⟨(some 6), (.val (.mov (.tmp 25))), none⟩])
           .skip))
         (.seq
          (.region [⟨(some 26), (.val (.mov (.tmp 6))), none⟩,
            ⟨(some 27), (.call (.const (.func 64 [] [])) [(.tmp 26)]), none⟩,
            ⟨(some 7), (.val (.mov (.tmp 27))), none⟩])
          (.seq
           (.region [⟨(some 28), (.val (.mov (.tmp 7))), none⟩,
             ⟨(some 29), (.val (.bin .add (.const (.int .i64 1)) (.tmp 28))), none⟩,
             ⟨(some 30), (.val (.slarr 24 1 (.tmp 5) (some (.const (.int .i64 1))) (some (.tmp 29)) none)), none⟩,
             ⟨(some 31), (.val (.mov (.tmp 6))), none⟩,
             ⟨(some 32), (.call (.const (.func 65 [] [])) [(.tmp 30), (.tmp 31)]), none⟩])
           (.seq
            (.seq
             (.region [⟨(some 33), (.val (.mov (.tmp 0))), none⟩,
               ⟨(some 34), (.val (.bin .lss (.tmp 33) (.const (.int .i64 0)))), none⟩])
             (.cond (.tmp 34)
              (.seq
               (.region [⟨(some 35), (.val (.iaddrArr 24 1 (.tmp 5) (.const (.int .i64 0)))), none⟩,
                 ⟨none, (.val (.store 1 (.tmp 35) (.const (.int .u8 45)))), none⟩])
               (.seq
                (.region [⟨(some 36), (.val (.mov (.tmp 7))), none⟩,
                  ⟨(some 37), (.val (.bin .add (.const (.int .i64 1)) (.tmp 36))), none⟩,
                  ⟨(some 38), (.val (.slarr 24 1 (.tmp 5) none (some (.tmp 37)) none)), none⟩,
                  ⟨(some 39), (.val (.conv .text (.tmp 38))), none⟩,
                  ⟨(some 4), (.val (.mov (.tmp 39))), none⟩])
                .ret))
              .skip))
            (.seq
             (.region [⟨(some 40), (.val (.mov (.tmp 7))), none⟩,
               ⟨(some 41), (.val (.bin .add (.const (.int .i64 1)) (.tmp 40))), none⟩,
               ⟨(some 42), (.val (.slarr 24 1 (.tmp 5) (some (.const (.int .i64 1))) (some (.tmp 41)) none)), none⟩,
               ⟨(some 43), (.val (.conv .text (.tmp 42))), none⟩,
               ⟨(some 4), (.val (.mov (.tmp 43))), none⟩])
             .ret))))))))
     .skip))
   (.seq
    (.region [⟨(some 45), (.val (.mov (.tmp 0))), none⟩,
      ⟨(some 46), (.val (.conv (.int .u64) (.tmp 45))), none⟩,
      ⟨(some 47), (.val (.mov (.tmp 1))), none⟩,
      ⟨(some 48), (.val (.mov (.tmp 0))), none⟩,
      ⟨(some 49), (.val (.bin .lss (.tmp 48) (.const (.int .i64 0)))), none⟩,
      ⟨(some 50), (.call (.const (.func 66 [] [])) [(.const .nilslice), (.tmp 46), (.tmp 47), (.tmp 49), (.const (.bool false))]), none⟩,
      ⟨(some 44), (.val (.mov (.tmp 50))), none⟩,
      ⟨(some 51), (.val (.extract (.tmp 44) 0)), none⟩,
      ⟨(some 52), (.val (.extract (.tmp 44) 1)), none⟩,
      ⟨(some 8), (.val (.mov (.tmp 51))), none⟩,
      ⟨(some 9), (.val (.mov (.tmp 52))), none⟩])
    (.seq
     (.region [⟨(some 53), (.val (.mov (.tmp 9))), none⟩,
       ⟨(some 4), (.val (.mov (.tmp 53))), none⟩])
     .ret)))),
 [.tmp 4]⟩
theorem ok55 : cFun Tryd.prog G Tryd.f55 = some F_internal_strconv_FormatInt := by kernel_rfl

/- (*strings.Builder).grow -/
abbrev n_strings_Builder_grow : Nat := 57
def F_strings_Builder_grow : IFun :=
 ⟨30,
 (.seq
  (.draw [⟨(some 5), (.val (.mov (.tmp 0))), none⟩,
    ⟨(some 6), (.val (.nilck (.tmp 5))), none⟩,
    ⟨(some 7), (.val (.faddr 1 (.tmp 6))), none⟩,
    ⟨(some 8), (.val (.load none (.tmp 7))), none⟩,
    ⟨(some 9), (.val (.cap (.tmp 8))), none⟩,
    ⟨(some 10), (.val (.bin .mul (.const (.int .i64 2)) (.tmp 9))), none⟩,
    ⟨(some 11), (.val (.mov (.tmp 1))), none⟩,
    ⟨(some 12), (.val (.bin .add (.tmp 10) (.tmp 11))), none⟩,
    ⟨(some 13), (.call (.const (.func 68 [] [])) [(.tmp 12)]), none⟩,
    ⟨(some 14), (.val (.mov (.tmp 0))), none⟩,
    ⟨(some 15), (.val (.nilck (.tmp 14))), none⟩,
    ⟨(some 16), (.val (.faddr 1 (.tmp 15))), none⟩,
    ⟨(some 17), (.val (.load none (.tmp 16))), none⟩,
    ⟨(some 18), (.val (.len (.tmp 17))), none⟩,
    ⟨(some 19), (.val (.slsl 1 (.tmp 13) none (some (.tmp 18)) none)), none⟩,
    ⟨(some 4), (.val (.mov (.tmp 19))), none⟩] [(12, 8)])
  (.seq
   (.region [⟨(some 20), (.val (.mov (.tmp 4))), none⟩,
     ⟨(some 21), (.val (.mov (.tmp 0))), none⟩,
     ⟨(some 22), (.val (.nilck (.tmp 21))), none⟩,
     ⟨(some 23), (.val (.faddr 1 (.tmp 22))), none⟩,
     ⟨(some 24), (.val (.load none (.tmp 23))), none⟩,
     ⟨(some 25), (.val (.copy 1 (.tmp 20) (.tmp 24))), none⟩])
   (.region [⟨(some 26), (.val (.mov (.tmp 0))), none⟩,
     ⟨(some 27), (.val (.mov (.tmp 4))), none⟩,
     ⟨(some 28), (.val (.nilck (.tmp 26))), none⟩,
     ⟨(some 29), (.val (.faddr 1 (.tmp 28))), none⟩,
     ⟨none, (.val (.store 1 (.tmp 29) (.tmp 27))), none⟩]))),
 []⟩
theorem ok57 : cFun Tryd.prog G Tryd.f57 = some F_strings_Builder_grow := by kernel_rfl

/- balustrade/balustraderef05.Letter -/
abbrev n_r05_Letter : Nat := 58
def F_r05_Letter : IFun :=
 ⟨21,
 (.seq
  (.region [⟨(some 2), (.val (.mov (.const (.bool false)))), none⟩])
  (.seq
   (.region [⟨(some 3), (.val (.mov (.tmp 0))), none⟩,
     ⟨(some 4), (.val (.bin .geq (.tmp 3) (.const (.int .u8 97)))), none⟩,
     ⟨(some 5), (.val (.mov (.tmp 4))), none⟩,
     ⟨(some 6), (.val (.mov (.tmp 0))), (some (5, true))⟩,
     ⟨(some 7), (.val (.bin .leq (.tmp 6) (.const (.int .u8 122)))), (some (5, true))⟩,
     ⟨(some 8), (.val (.pick (.tmp 5) (.tmp 7) (.const (.bool false)))), none⟩,
     ⟨(some 9), (.val (.mov (.tmp 8))), none⟩,
     ⟨(some 10), (.val (.mov (.tmp 0))), (some (9, false))⟩,
     ⟨(some 11), (.val (.bin .geq (.tmp 10) (.const (.int .u8 65)))), (some (9, false))⟩,
     ⟨(some 12), (.val (.mov (.tmp 11))), (some (9, false))⟩,
     ⟨(some 13), (.val (.mov (.tmp 0))), (some (12, true))⟩,
     ⟨(some 14), (.val (.bin .leq (.tmp 13) (.const (.int .u8 90)))), (some (12, true))⟩,
     ⟨(some 15), (.val (.pick (.tmp 12) (.tmp 14) (.const (.bool false)))), (some (9, false))⟩,
     ⟨(some 16), (.val (.pick (.tmp 9) (.const (.bool true)) (.tmp 15))), none⟩,
     ⟨(some 17), (.val (.mov (.tmp 16))), none⟩,
     ⟨(some 18), (.val (.mov (.tmp 0))), (some (17, false))⟩,
     ⟨(some 19), (.val (.eq false (.prim 1) (.tmp 18) (.const (.int .u8 95)))), (some (17, false))⟩,
     ⟨(some 20), (.val (.pick (.tmp 17) (.const (.bool true)) (.tmp 19))), none⟩,
     ⟨(some 2), (.val (.mov (.tmp 20))), none⟩])
   .ret)),
 [.tmp 2]⟩
theorem ok58 : cFun Tryd.prog G Tryd.f58 = some F_r05_Letter := by kernel_rfl

/- balustrade/balustraderef05.Digit -/
abbrev n_r05_Digit : Nat := 59
def F_r05_Digit : IFun :=
 ⟨9,
 (.seq
  (.region [⟨(some 2), (.val (.mov (.const (.bool false)))), none⟩])
  (.seq
   (.region [⟨(some 3), (.val (.mov (.tmp 0))), none⟩,
     ⟨(some 4), (.val (.bin .geq (.tmp 3) (.const (.int .u8 48)))), none⟩,
     ⟨(some 5), (.val (.mov (.tmp 4))), none⟩,
     ⟨(some 6), (.val (.mov (.tmp 0))), (some (5, true))⟩,
     ⟨(some 7), (.val (.bin .leq (.tmp 6) (.const (.int .u8 57)))), (some (5, true))⟩,
     ⟨(some 8), (.val (.pick (.tmp 5) (.tmp 7) (.const (.bool false)))), none⟩,
     ⟨(some 2), (.val (.mov (.tmp 8))), none⟩])
   .ret)),
 [.tmp 2]⟩
theorem ok59 : cFun Tryd.prog G Tryd.f59 = some F_r05_Digit := by kernel_rfl

/- balustrade/balustraderef05.Word -/
abbrev n_r05_Word : Nat := 60
def F_r05_Word_l0 : ICode :=
 (.seq
  (.seq
   (.region [⟨(some 6), (.val (.mov (.tmp 4))), none⟩,
     ⟨(some 7), (.val (.mov (.tmp 3))), none⟩,
     ⟨(some 8), (.val (.len (.tmp 7))), none⟩,
     ⟨(some 9), (.val (.bin .lss (.tmp 6) (.tmp 8))), none⟩])
   (.cond (.tmp 9)
    .skip
    (.exit 0)))
  (.seq
   (.block 1
    (.seq
     (.region [⟨(some 12), (.val (.mov (.tmp 3))), none⟩,
       ⟨(some 13), (.val (.mov (.tmp 4))), none⟩,
       ⟨(some 14), (.val (.iaddr 1 (.tmp 12) (.tmp 13))), none⟩,
       ⟨(some 15), (.val (.load none (.tmp 14))), none⟩,
       ⟨(some 16), (.val (.mov (.tmp 0))), none⟩,
       ⟨(some 17), (.val (.eq false (.prim 2) (.tmp 15) (.tmp 16))), none⟩])
     (.cond (.tmp 17)
      (.seq
       (.region [⟨(some 2), (.val (.mov (.const (.bool true)))), none⟩])
       .ret)
      .skip)))
   (.region [⟨(some 10), (.val (.mov (.tmp 4))), none⟩,
     ⟨(some 11), (.val (.bin .add (.tmp 10) (.const (.int .i64 1)))), none⟩,
     ⟨(some 4), (.val (.mov (.tmp 11))), none⟩])))
def F_r05_Word : IFun :=
 ⟨18,
 (.seq
  (.region [⟨(some 2), (.val (.mov (.const (.bool false)))), none⟩])
  (.seq
   (.region [⟨(some 5), (.call (.const (.func 69 [] [])) []), none⟩,
     ⟨(some 3), (.val (.mov (.tmp 5))), none⟩])
   (.seq
    (.seq
     (.region [⟨(some 4), (.val (.mov (.const (.int .i64 0)))), none⟩])
     (.block 0
      (.loop F_r05_Word_l0)))
    (.seq
     (.region [⟨(some 2), (.val (.mov (.const (.bool false)))), none⟩])
     .ret)))),
 [.tmp 2]⟩
theorem ok60 : cFun Tryd.prog G Tryd.f60 = some F_r05_Word := by kernel_rfl

/- balustrade/balustraderef06.Expr -/
abbrev n_r06_Expr : Nat := 61
def F_r06_Expr : IFun :=
 ⟨9,
 (.seq
  (.region [⟨(some 2), (.val (.mov (.const (.bool false)))), none⟩])
  (.seq
   (.region [⟨(some 3), (.val (.mov (.tmp 0))), none⟩,
     ⟨(some 4), (.val (.bin .geq (.tmp 3) (.const (.int .i64 1)))), none⟩,
     ⟨(some 5), (.val (.mov (.tmp 4))), none⟩,
     ⟨(some 6), (.val (.mov (.tmp 0))), (some (5, true))⟩,
     ⟨(some 7), (.val (.bin .leq (.tmp 6) (.const (.int .i64 11)))), (some (5, true))⟩,
     ⟨(some 8), (.val (.pick (.tmp 5) (.tmp 7) (.const (.bool false)))), none⟩,
     ⟨(some 2), (.val (.mov (.tmp 8))), none⟩])
   .ret)),
 [.tmp 2]⟩
theorem ok61 : cFun Tryd.prog G Tryd.f61 = some F_r06_Expr := by kernel_rfl

/- slices.Contains[[]string,string] -/
abbrev n_slices_Contains_string : Nat := 62
def F_slices_Contains_string : IFun :=
 ⟨9,
 (.seq
  (.region [⟨(some 4), (.val (.mov (.const (.bool false)))), none⟩])
  (.seq
   (.region [⟨(some 5), (.val (.mov (.tmp 0))), none⟩,
     ⟨(some 6), (.val (.mov (.tmp 1))), none⟩,
     ⟨(some 7), (.call (.const (.func 41 [] [])) [(.tmp 5), (.tmp 6)]), none⟩,
     ⟨(some 8), (.val (.bin .geq (.tmp 7) (.const (.int .i64 0)))), none⟩,
     ⟨(some 4), (.val (.mov (.tmp 8))), none⟩])
   .ret)),
 [.tmp 4]⟩
theorem ok62 : cFun Tryd.prog G Tryd.f62 = some F_slices_Contains_string := by kernel_rfl

/- internal/strconv.small -/
abbrev n_internal_strconv_small : Nat := 63
def F_internal_strconv_small : IFun :=
 ⟨15,
 (.seq
  (.region [⟨(some 2), (.val (.mov (.const (.str [])))), none⟩])
  (.seq
   (.seq
    (.region [⟨(some 3), (.val (.mov (.tmp 0))), none⟩,
      ⟨(some 4), (.val (.bin .lss (.tmp 3) (.const (.int .i64 10)))), none⟩])
    (.cond (.tmp 4)
     (.seq
      (.region [⟨(some 5), (.val (.mov (.tmp 0))), none⟩,
        ⟨(some 6), (.val (.mov (.tmp 0))), none⟩,
        ⟨(some 7), (.val (.bin .add (.tmp 6) (.const (.int .i64 1)))), none⟩,
        ⟨(some 8), (.val (.slstr (.const (.str [48, 49, 50, 51, 52, 53, 54, 55, 56, 57, 97, 98, 99, 100, 101, 102, 103, 104, 105, 106, 107, 108, 109, 110, 111, 112, 113, 114, 115, 116, 117, 118, 119, 120, 121, 122])) (some (.tmp 5)) (some (.tmp 7)))), none⟩,
        ⟨(some 2), (.val (.mov (.tmp 8))), none⟩])
      .ret)
     .skip))
   (.seq
    (.region [⟨(some 9), (.val (.mov (.tmp 0))), none⟩,
      ⟨(some 10), (.val (.bin .mul (.tmp 9) (.const (.int .i64 2)))), none⟩,
      ⟨(some 11), (.val (.mov (.tmp 0))), none⟩,
      ⟨(some 12), (.val (.bin .mul (.tmp 11) (.const (.int .i64 2)))), none⟩,
      ⟨(some 13), (.val (.bin .add (.tmp 12) (.const (.int .i64 2)))), none⟩,
      ⟨(some 14), (.val (.slstr (.const (.str [48, 48, 48, 49, 48, 50, 48, 51, 48, 52, 48, 53, 48, 54, 48, 55, 48, 56, 48, 57, 49, 48, 49, 49, 49, 50, 49, 51, 49, 52, 49, 53, 49, 54, 49, 55, 49, 56, 49, 57, 50, 48, 50, 49, 50, 50, 50, 51, 50, 52, 50, 53, 50, 54, 50, 55, 50, 56, 50, 57, 51, 48, 51, 49, 51, 50, 51, 51, 51, 52, 51, 53, 51, 54, 51, 55, 51, 56, 51, 57, 52, 48, 52, 49, 52, 50, 52, 51, 52, 52, 52, 53, 52, 54, 52, 55, 52, 56, 52, 57, 53, 48, 53, 49, 53, 50, 53, 51, 53, 52, 53, 53, 53, 54, 53, 55, 53, 56, 53, 57, 54, 48, 54, 49, 54, 50, 54, 51, 54, 52, 54, 53, 54, 54, 54, 55, 54, 56, 54, 57, 55, 48, 55, 49, 55, 50, 55, 51, 55, 52, 55, 53, 55, 54, 55, 55, 55, 56, 55, 57, 56, 48, 56, 49, 56, 50, 56, 51, 56, 52, 56, 53, 56, 54, 56, 55, 56, 56, 56, 57, 57, 48, 57, 49, 57, 50, 57, 51, 57, 52, 57, 53, 57, 54, 57, 55, 57, 56, 57, 57])) (some (.tmp 10)) (some (.tmp 13)))), none⟩,
      ⟨(some 2), (.val (.mov (.tmp 14))), none⟩])
    .ret))),
 [.tmp 2]⟩
theorem ok63 : cFun Tryd.prog G Tryd.f63 = some F_internal_strconv_small := by kernel_rfl

/- internal/strconv.numDigits -/
abbrev n_internal_strconv_numDigits : Nat := 64
def F_internal_strconv_numDigits : IFun :=
 ⟨15,
 (.seq
  (.region [⟨(some 2), (.val (.mov (.const (.int .i64 0)))), none⟩])
  (.seq
   (.region [⟨(some 4), (.val (.mov (.tmp 0))), none⟩,
     ⟨(some 5), (.call (.const (.func 71 [] [])) [(.tmp 4)]), none⟩,
     ⟨(some 6), (.call (.const (.func 70 [] [])) [(.tmp 5)]), none⟩,
     ⟨(some 3), (.val (.mov (.tmp 6))), none⟩])
   (.seq
    (.region [⟨(some 7), (.val (.mov (.tmp 3))), none⟩,
      ⟨(some 8), (.val (.mov (.tmp 0))), none⟩,
      ⟨(some 9), (.val (.mov (.tmp 3))), none⟩,
      ⟨(some 10), (.val (.iaddrArr 20 1 (.const (.ptr 2 0)) (.tmp 9))), none⟩,
      ⟨(some 11), (.val (.load none (.tmp 10))), none⟩,
      ⟨(some 12), (.val (.bin .geq (.tmp 8) (.tmp 11))), none⟩,
      ⟨(some 13), (.call (.const (.func 72 [] [])) [(.tmp 12)]), none⟩,
      ⟨(some 14), (.val (.bin .add (.tmp 7) (.tmp 13))), none⟩,
      ⟨(some 2), (.val (.mov (.tmp 14))), none⟩])
    .ret))),
 [.tmp 2]⟩
theorem ok64 : cFun Tryd.prog G Tryd.f64 = some F_internal_strconv_numDigits := by kernel_rfl

/- internal/strconv.formatBase10 -/
abbrev n_internal_strconv_formatBase10 : Nat := 65
def F_internal_strconv_formatBase10_l0 : ICode :=
 (.seq
  (.seq
   (.region [⟨(some 19), (.val (.mov (.tmp 4))), none⟩,
     ⟨(some 20), (.val (.bin .geq (.tmp 19) (.const (.int .i64 8)))), none⟩])
   (.cond (.tmp 20)
    .skip
    (.exit 0)))
  (.block 1
   (.seq
    (.region [⟨(some 21), (.val (.mov (.tmp 1))), none⟩,
      ⟨(some 22), (.val (.bin .rem (.tmp 21) (.const (.int .u64 100000000)))), none⟩,
      ⟨(some 23), (.val (.conv (.int .u32) (.tmp 22))), none⟩,
      ⟨(some 5), (.val (.mov (.tmp 23))), none⟩])
    (.seq
     (.region [⟨(some 24), (.val (.mov (.tmp 1))), none⟩,
       ⟨(some 25), (.val (.bin .quo (.tmp 24) (.const (.int .u64 100000000)))), none⟩,
       ⟨(some 1), (.val (.mov (.tmp 25))), none⟩])
     (.seq
      (.region [⟨(some 26), (.val (.mov (.tmp 5))), none⟩,
        ⟨(some 27), (.val (.bin .quo (.tmp 26) (.const (.int .u32 10000)))), none⟩,
        ⟨(some 28), (.val (.mov (.tmp 5))), none⟩,
        ⟨(some 29), (.val (.bin .rem (.tmp 28) (.const (.int .u32 10000)))), none⟩,
        ⟨(some 6), (.val (.mov (.tmp 27))), none⟩,
        ⟨(some 7), (.val (.mov (.tmp 29))), none⟩])
      (.seq
       (.region [⟨(some 30), (.val (.mov (.tmp 7))), none⟩,
         ⟨(some 31), (.val (.bin .quo (.tmp 30) (.const (.int .u32 100)))), none⟩,
         ⟨(some 32), (.val (.bin .mul (.tmp 31) (.const (.int .u32 2)))), none⟩,
         ⟨(some 33), (.val (.mov (.tmp 7))), none⟩,
         ⟨(some 34), (.val (.bin .rem (.tmp 33) (.const (.int .u32 100)))), none⟩,
         ⟨(some 35), (.val (.bin .mul (.tmp 34) (.const (.int .u32 2)))), none⟩,
         ⟨(some 8), (.val (.mov (.tmp 32))), none⟩,
         ⟨(some 9), (.val (.mov (.tmp 35))), none⟩])
       (.seq
        (.region [⟨(some 36), (.val (.mov (.tmp 6))), none⟩,
          ⟨(some 37), (.val (.bin .quo (.tmp 36) (.const (.int .u32 100)))), none⟩,
          ⟨(some 38), (.val (.bin .mul (.tmp 37) (.const (.int .u32 2)))), none⟩,
          ⟨(some 39), (.val (.mov (.tmp 6))), none⟩,
          ⟨(some 40), (.val (.bin .rem (.tmp 39) (.const (.int .u32 100)))), none⟩,
          ⟨(some 41), (.val (.bin .mul (.tmp 40) (.const (.int .u32 2)))), none⟩,
          ⟨(some 10), (.val (.mov (.tmp 38))), none⟩,
          ⟨(some 11), (.val (.mov (.tmp 41))), none⟩])
        (.seq
         (.draw [⟨(some 42), (.val (.mov (.tmp 0))), none⟩,
           ⟨(some 43), (.val (.mov (.tmp 4))), none⟩,
           ⟨(some 44), (.val (.bin .sub (.tmp 43) (.const (.int .i64 1)))), none⟩,
           ⟨(some 45), (.val (.mov (.tmp 0))), none⟩,
           ⟨(some 46), (.val (.mov (.tmp 4))), none⟩,
           ⟨(some 47), (.val (.bin .sub (.tmp 46) (.const (.int .i64 2)))), none⟩,
           ⟨(some 48), (.val (.mov (.tmp 9))), none⟩,
           ⟨(some 49), (.val (.bin .add (.tmp 48) (.const (.int .u32 1)))), none⟩,
           ⟨(some 50), (.val (.idxstr (.const (.str [48, 48, 48, 49, 48, 50, 48, 51, 48, 52, 48, 53, 48, 54, 48, 55, 48, 56, 48, 57, 49, 48, 49, 49, 49, 50, 49, 51, 49, 52, 49, 53, 49, 54, 49, 55, 49, 56, 49, 57, 50, 48, 50, 49, 50, 50, 50, 51, 50, 52, 50, 53, 50, 54, 50, 55, 50, 56, 50, 57, 51, 48, 51, 49, 51, 50, 51, 51, 51, 52, 51, 53, 51, 54, 51, 55, 51, 56, 51, 57, 52, 48, 52, 49, 52, 50, 52, 51, 52, 52, 52, 53, 52, 54, 52, 55, 52, 56, 52, 57, 53, 48, 53, 49, 53, 50, 53, 51, 53, 52, 53, 53, 53, 54, 53, 55, 53, 56, 53, 57, 54, 48, 54, 49, 54, 50, 54, 51, 54, 52, 54, 53, 54, 54, 54, 55, 54, 56, 54, 57, 55, 48, 55, 49, 55, 50, 55, 51, 55, 52, 55, 53, 55, 54, 55, 55, 55, 56, 55, 57, 56, 48, 56, 49, 56, 50, 56, 51, 56, 52, 56, 53, 56, 54, 56, 55, 56, 56, 56, 57, 57, 48, 57, 49, 57, 50, 57, 51, 57, 52, 57, 53, 57, 54, 57, 55, 57, 56, 57, 57])) (.tmp 49))), none⟩,
           ⟨(some 51), (.val (.mov (.tmp 9))), none⟩,
           ⟨(some 52), (.val (.idxstr (.const (.str [48, 48, 48, 49, 48, 50, 48, 51, 48, 52, 48, 53, 48, 54, 48, 55, 48, 56, 48, 57, 49, 48, 49, 49, 49, 50, 49, 51, 49, 52, 49, 53, 49, 54, 49, 55, 49, 56, 49, 57, 50, 48, 50, 49, 50, 50, 50, 51, 50, 52, 50, 53, 50, 54, 50, 55, 50, 56, 50, 57, 51, 48, 51, 49, 51, 50, 51, 51, 51, 52, 51, 53, 51, 54, 51, 55, 51, 56, 51, 57, 52, 48, 52, 49, 52, 50, 52, 51, 52, 52, 52, 53, 52, 54, 52, 55, 52, 56, 52, 57, 53, 48, 53, 49, 53, 50, 53, 51, 53, 52, 53, 53, 53, 54, 53, 55, 53, 56, 53, 57, 54, 48, 54, 49, 54, 50, 54, 51, 54, 52, 54, 53, 54, 54, 54, 55, 54, 56, 54, 57, 55, 48, 55, 49, 55, 50, 55, 51, 55, 52, 55, 53, 55, 54, 55, 55, 55, 56, 55, 57, 56, 48, 56, 49, 56, 50, 56, 51, 56, 52, 56, 53, 56, 54, 56, 55, 56, 56, 56, 57, 57, 48, 57, 49, 57, 50, 57, 51, 57, 52, 57, 53, 57, 54, 57, 55, 57, 56, 57, 57])) (.tmp 51))), none⟩,
           ⟨(some 53), (.val (.iaddr 1 (.tmp 42) (.tmp 44))), none⟩,
           ⟨none, (.val (.store 1 (.tmp 53) (.tmp 50))), none⟩,
           ⟨(some 54), (.val (.iaddr 1 (.tmp 45) (.tmp 47))), none⟩,
           ⟨none, (.val (.store 1 (.tmp 54) (.tmp 52))), none⟩] [])
         (.seq
          (.draw [⟨(some 55), (.val (.mov (.tmp 0))), none⟩,
            ⟨(some 56), (.val (.mov (.tmp 4))), none⟩,
            ⟨(some 57), (.val (.bin .sub (.tmp 56) (.const (.int .i64 3)))), none⟩,
            ⟨(some 58), (.val (.mov (.tmp 0))), none⟩,
            ⟨(some 59), (.val (.mov (.tmp 4))), none⟩,
            ⟨(some 60), (.val (.bin .sub (.tmp 59) (.const (.int .i64 4)))), none⟩,
            ⟨(some 61), (.val (.mov (.tmp 8))), none⟩,
            ⟨(some 62), (.val (.bin .add (.tmp 61) (.const (.int .u32 1)))), none⟩,
            ⟨(some 63), (.val (.idxstr (.const (.str [48, 48, 48, 49, 48, 50, 48, 51, 48, 52, 48, 53, 48, 54, 48, 55, 48, 56, 48, 57, 49, 48, 49, 49, 49, 50, 49, 51, 49, 52, 49, 53, 49, 54, 49, 55, 49, 56, 49, 57, 50, 48, 50, 49, 50, 50, 50, 51, 50, 52, 50, 53, 50, 54, 50, 55, 50, 56, 50, 57, 51, 48, 51, 49, 51, 50, 51, 51, 51, 52, 51, 53, 51, 54, 51, 55, 51, 56, 51, 57, 52, 48, 52, 49, 52, 50, 52, 51, 52, 52, 52, 53, 52, 54, 52, 55, 52, 56, 52, 57, 53, 48, 53, 49, 53, 50, 53, 51, 53, 52, 53, 53, 53, 54, 53, 55, 53, 56, 53, 57, 54, 48, 54, 49, 54, 50, 54, 51, 54, 52, 54, 53, 54, 54, 54, 55, 54, 56, 54, 57, 55, 48, 55, 49, 55, 50, 55, 51, 55, 52, 55, 53, 55, 54, 55, 55, 55, 56, 55, 57, 56, 48, 56, 49, 56, 50, 56, 51, 56, 52, 56, 53, 56, 54, 56, 55, 56, 56, 56, 57, 57, 48, 57, 49, 57, 50, 57, 51, 57, 52, 57, 53, 57, 54, 57, 55, 57, 56, 57, 57])) (.tmp 62))), none⟩,
            ⟨(some 64), (.val (.mov (.tmp 8))), none⟩,
            ⟨(some 65), (.val (.idxstr (.const (.str [48, 48, 48, 49, 48, 50, 48, 51, 48, 52, 48, 53, 48, 54, 48, 55, 48, 56, 48, 57, 49, 48, 49, 49, 49, 50, 49, 51, 49, 52, 49, 53, 49, 54, 49, 55, 49, 56, 49, 57, 50, 48, 50, 49, 50, 50, 50, 51, 50, 52, 50, 53, 50, 54, 50, 55, 50, 56, 50, 57, 51, 48, 51, 49, 51, 50, 51, 51, 51, 52, 51, 53, 51, 54, 51, 55, 51, 56, 51, 57, 52, 48, 52, 49, 52, 50, 52, 51, 52, 52, 52, 53, 52, 54, 52, 55, 52, 56, 52, 57, 53, 48, 53, 49, 53, 50, 53, 51, 53, 52, 53, 53, 53, 54, 53, 55, 53, 56, 53, 57, 54, 48, 54, 49, 54, 50, 54, 51, 54, 52, 54, 53, 54, 54, 54, 55, 54, 56, 54, 57, 55, 48, 55, 49, 55, 50, 55, 51, 55, 52, 55, 53, 55, 54, 55, 55, 55, 56, 55, 57, 56, 48, 56, 49, 56, 50, 56, 51, 56, 52, 56, 53, 56, 54, 56, 55, 56, 56, 56, 57, 57, 48, 57, 49, 57, 50, 57, 51, 57, 52, 57, 53, 57, 54, 57, 55, 57, 56, 57, 57])) (.tmp 64))), none⟩,
            ⟨(some 66), (.val (.iaddr 1 (.tmp 55) (.tmp 57))), none⟩,
            ⟨none, (.val (.store 1 (.tmp 66) (.tmp 63))), none⟩,
            ⟨(some 67), (.val (.iaddr 1 (.tmp 58) (.tmp 60))), none⟩,
            ⟨none, (.val (.store 1 (.tmp 67) (.tmp 65))), none⟩] [])
          (.seq
           (.draw [⟨(some 68), (.val (.mov (.tmp 0))), none⟩,
             ⟨(some 69), (.val (.mov (.tmp 4))), none⟩,
             ⟨(some 70), (.val (.bin .sub (.tmp 69) (.const (.int .i64 5)))), none⟩,
             ⟨(some 71), (.val (.mov (.tmp 0))), none⟩,
             ⟨(some 72), (.val (.mov (.tmp 4))), none⟩,
             ⟨(some 73), (.val (.bin .sub (.tmp 72) (.const (.int .i64 6)))), none⟩,
             ⟨(some 74), (.val (.mov (.tmp 11))), none⟩,
             ⟨(some 75), (.val (.bin .add (.tmp 74) (.const (.int .u32 1)))), none⟩,
             ⟨(some 76), (.val (.idxstr (.const (.str [48, 48, 48, 49, 48, 50, 48, 51, 48, 52, 48, 53, 48, 54, 48, 55, 48, 56, 48, 57, 49, 48, 49, 49, 49, 50, 49, 51, 49, 52, 49, 53, 49, 54, 49, 55, 49, 56, 49, 57, 50, 48, 50, 49, 50, 50, 50, 51, 50, 52, 50, 53, 50, 54, 50, 55, 50, 56, 50, 57, 51, 48, 51, 49, 51, 50, 51, 51, 51, 52, 51, 53, 51, 54, 51, 55, 51, 56, 51, 57, 52, 48, 52, 49, 52, 50, 52, 51, 52, 52, 52, 53, 52, 54, 52, 55, 52, 56, 52, 57, 53, 48, 53, 49, 53, 50, 53, 51, 53, 52, 53, 53, 53, 54, 53, 55, 53, 56, 53, 57, 54, 48, 54, 49, 54, 50, 54, 51, 54, 52, 54, 53, 54, 54, 54, 55, 54, 56, 54, 57, 55, 48, 55, 49, 55, 50, 55, 51, 55, 52, 55, 53, 55, 54, 55, 55, 55, 56, 55, 57, 56, 48, 56, 49, 56, 50, 56, 51, 56, 52, 56, 53, 56, 54, 56, 55, 56, 56, 56, 57, 57, 48, 57, 49, 57, 50, 57, 51, 57, 52, 57, 53, 57, 54, 57, 55, 57, 56, 57, 57])) (.tmp 75))), none⟩,
             ⟨(some 77), (.val (.mov (.tmp 11))), none⟩,
             ⟨(some 78), (.val (.idxstr (.const (.str [48, 48, 48, 49, 48, 50, 48, 51, 48, 52, 48, 53, 48, 54, 48, 55, 48, 56, 48, 57, 49, 48, 49, 49, 49, 50, 49, 51, 49, 52, 49, 53, 49, 54, 49, 55, 49, 56, 49, 57, 50, 48, 50, 49, 50, 50, 50, 51, 50, 52, 50, 53, 50, 54, 50, 55, 50, 56, 50, 57, 51, 48, 51, 49, 51, 50, 51, 51, 51, 52, 51, 53, 51, 54, 51, 55, 51, 56, 51, 57, 52, 48, 52, 49, 52, 50, 52, 51, 52, 52, 52, 53, 52, 54, 52, 55, 52, 56, 52, 57, 53, 48, 53, 49, 53, 50, 53, 51, 53, 52, 53, 53, 53, 54, 53, 55, 53, 56, 53, 57, 54, 48, 54, 49, 54, 50, 54, 51, 54, 52, 54, 53, 54, 54, 54, 55, 54, 56, 54, 57, 55, 48, 55, 49, 55, 50, 55, 51, 55, 52, 55, 53, 55, 54, 55, 55, 55, 56, 55, 57, 56, 48, 56, 49, 56, 50, 56, 51, 56, 52, 56, 53, 56, 54, 56, 55, 56, 56, 56, 57, 57, 48, 57, 49, 57, 50, 57, 51, 57, 52, 57, 53, 57, 54, 57, 55, 57, 56, 57, 57])) (.tmp 77))), none⟩,
             ⟨(some 79), (.val (.iaddr 1 (.tmp 68) (.tmp 70))), none⟩,
             ⟨none, (.val (.store 1 (.tmp 79) (.tmp 76))), none⟩,
             ⟨(some 80), (.val (.iaddr 1 (.tmp 71) (.tmp 73))), none⟩,
             ⟨none, (.val (.store 1 (.tmp 80) (.tmp 78))), none⟩] [])
           (.seq
            (.draw [⟨(some 81), (.val (.mov (.tmp 0))), none⟩,
              ⟨(some 82), (.val (.mov (.tmp 4))), none⟩,
              ⟨(some 83), (.val (.bin .sub (.tmp 82) (.const (.int .i64 7)))), none⟩,
              ⟨(some 84), (.val (.mov (.tmp 0))), none⟩,
              ⟨(some 85), (.val (.mov (.tmp 4))), none⟩,
              ⟨(some 86), (.val (.bin .sub (.tmp 85) (.const (.int .i64 8)))), none⟩,
              ⟨(some 87), (.val (.mov (.tmp 10))), none⟩,
              ⟨(some 88), (.val (.bin .add (.tmp 87) (.const (.int .u32 1)))), none⟩,
              ⟨(some 89), (.val (.idxstr (.const (.str [48, 48, 48, 49, 48, 50, 48, 51, 48, 52, 48, 53, 48, 54, 48, 55, 48, 56, 48, 57, 49, 48, 49, 49, 49, 50, 49, 51, 49, 52, 49, 53, 49, 54, 49, 55, 49, 56, 49, 57, 50, 48, 50, 49, 50, 50, 50, 51, 50, 52, 50, 53, 50, 54, 50, 55, 50, 56, 50, 57, 51, 48, 51, 49, 51, 50, 51, 51, 51, 52, 51, 53, 51, 54, 51, 55, 51, 56, 51, 57, 52, 48, 52, 49, 52, 50, 52, 51, 52, 52, 52, 53, 52, 54, 52, 55, 52, 56, 52, 57, 53, 48, 53, 49, 53, 50, 53, 51, 53, 52, 53, 53, 53, 54, 53, 55, 53, 56, 53, 57, 54, 48, 54, 49, 54, 50, 54, 51, 54, 52, 54, 53, 54, 54, 54, 55, 54, 56, 54, 57, 55, 48, 55, 49, 55, 50, 55, 51, 55, 52, 55, 53, 55, 54, 55, 55, 55, 56, 55, 57, 56, 48, 56, 49, 56, 50, 56, 51, 56, 52, 56, 53, 56, 54, 56, 55, 56, 56, 56, 57, 57, 48, 57, 49, 57, 50, 57, 51, 57, 52, 57, 53, 57, 54, 57, 55, 57, 56, 57, 57])) (.tmp 88))), none⟩,
              ⟨(some 90), (.val (.mov (.tmp 10))), none⟩,
              ⟨(some 91), (.val (.idxstr (.const (.str [48, 48, 48, 49, 48, 50, 48, 51, 48, 52, 48, 53, 48, 54, 48, 55, 48, 56, 48, 57, 49, 48, 49, 49, 49, 50, 49, 51, 49, 52, 49, 53, 49, 54, 49, 55, 49, 56, 49, 57, 50, 48, 50, 49, 50, 50, 50, 51, 50, 52, 50, 53, 50, 54, 50, 55, 50, 56, 50, 57, 51, 48, 51, 49, 51, 50, 51, 51, 51, 52, 51, 53, 51, 54, 51, 55, 51, 56, 51, 57, 52, 48, 52, 49, 52, 50, 52, 51, 52, 52, 52, 53, 52, 54, 52, 55, 52, 56, 52, 57, 53, 48, 53, 49, 53, 50, 53, 51, 53, 52, 53, 53, 53, 54, 53, 55, 53, 56, 53, 57, 54, 48, 54, 49, 54, 50, 54, 51, 54, 52, 54, 53, 54, 54, 54, 55, 54, 56, 54, 57, 55, 48, 55, 49, 55, 50, 55, 51, 55, 52, 55, 53, 55, 54, 55, 55, 55, 56, 55, 57, 56, 48, 56, 49, 56, 50, 56, 51, 56, 52, 56, 53, 56, 54, 56, 55, 56, 56, 56, 57, 57, 48, 57, 49, 57, 50, 57, 51, 57, 52, 57, 53, 57, 54, 57, 55, 57, 56, 57, 57])) (.tmp 90))), none⟩,
              ⟨(some 92), (.val (.iaddr 1 (.tmp 81) (.tmp 83))), none⟩,
              ⟨none, (.val (.store 1 (.tmp 92) (.tmp 89))), none⟩,
              ⟨(some 93), (.val (.iaddr 1 (.tmp 84) (.tmp 86))), none⟩,
              ⟨none, (.val (.store 1 (.tmp 93) (.tmp 91))), none⟩] [])
            (.region [⟨(some 94), (.val (.mov (.tmp 4))), none⟩,
              ⟨(some 95), (.val (.bin .sub (.tmp 94) (.const (.int .i64 8)))), none⟩,
              ⟨(some 4), (.val (.mov (.tmp 95))), none⟩]))))))))))))
def F_internal_strconv_formatBase10 : IFun :=
 ⟨167,
 (.seq
  (.region [⟨(some 17), (.val (.mov (.tmp 0))), none⟩,
    ⟨(some 18), (.val (.len (.tmp 17))), none⟩,
    ⟨(some 4), (.val (.mov (.tmp 18))), none⟩])
  (.seq
   (.block 0
    (.loop F_internal_strconv_formatBase10_l0))
   (.seq
    (.region [⟨(some 96), (.val (.mov (.tmp 1))), none⟩,
      ⟨(some 97), (.val (.conv (.int .u32) (.tmp 96))), none⟩,
      ⟨(some 12), (.val (.mov (.tmp 97))), none⟩])
    (.seq
     (.seq
      (.region [⟨(some 98), (.val (.mov (.tmp 4))), none⟩,
        ⟨(some 99), (.val (.bin .geq (.tmp 98) (.const (.int .i64 4)))), none⟩])
      (.cond (.tmp 99)
       (.seq
        (.region [⟨(some 100), (.val (.mov (.tmp 12))), none⟩,
          ⟨(some 101), (.val (.bin .rem (.tmp 100) (.const (.int .u32 10000)))), none⟩,
          ⟨(some 13), (.val (.mov (.tmp 101))), none⟩])
        (.seq
         (.region [⟨(some 102), (.val (.mov (.tmp 12))), none⟩,
           ⟨(some 103), (.val (.bin .quo (.tmp 102) (.const (.int .u32 10000)))), none⟩,
           ⟨(some 12), (.val (.mov (.tmp 103))), none⟩])
         (.seq
          (.region [⟨(some 104), (.val (.mov (.tmp 13))), none⟩,
            ⟨(some 105), (.val (.bin .quo (.tmp 104) (.const (.int .u32 100)))), none⟩,
            ⟨(some 106), (.val (.bin .mul (.tmp 105) (.const (.int .u32 2)))), none⟩,
            ⟨(some 107), (.val (.mov (.tmp 13))), none⟩,
            ⟨(some 108), (.val (.bin .rem (.tmp 107) (.const (.int .u32 100)))), none⟩,
            ⟨(some 109), (.val (.bin .mul (.tmp 108) (.const (.int .u32 2)))), none⟩,
            ⟨(some 14), (.val (.mov (.tmp 106))), none⟩,
            ⟨(some 15), (.val (.mov (.tmp 109))), none⟩])
          (.seq
           (.draw [⟨(some 110), (.val (.mov (.tmp 0))), none⟩,
             ⟨(some 111), (.val (.mov (.tmp 4))), none⟩,
             ⟨(some 112), (.val (.bin .sub (.tmp 111) (.const (.int .i64 1)))), none⟩,
             ⟨(some 113), (.val (.mov (.tmp 0))), none⟩,
             ⟨(some 114), (.val (.mov (.tmp 4))), none⟩,
             ⟨(some 115), (.val (.bin .sub (.tmp 114) (.const (.int .i64 2)))), none⟩,
             ⟨(some 116), (.val (.mov (.tmp 15))), none⟩,
             ⟨(some 117), (.val (.bin .add (.tmp 116) (.const (.int .u32 1)))), none⟩,
             ⟨(some 118), (.val (.idxstr (.const (.str [48, 48, 48, 49, 48, 50, 48, 51, 48, 52, 48, 53, 48, 54, 48, 55, 48, 56, 48, 57, 49, 48, 49, 49, 49, 50, 49, 51, 49, 52, 49, 53, 49, 54, 49, 55, 49, 56, 49, 57, 50, 48, 50, 49, 50, 50, 50, 51, 50, 52, 50, 53, 50, 54, 50, 55, 50, 56, 50, 57, 51, 48, 51, 49, 51, 50, 51, 51, 51, 52, 51, 53, 51, 54, 51, 55, 51, 56, 51, 57, 52, 48, 52, 49, 52, 50, 52, 51, 52, 52, 52, 53, 52, 54, 52, 55, 52, 56, 52, 57, 53, 48, 53, 49, 53, 50, 53, 51, 53, 52, 53, 53, 53, 54, 53, 55, 53, 56, 53, 57, 54, 48, 54, 49, 54, 50, 54, 51, 54, 52, 54, 53, 54, 54, 54, 55, 54, 56, 54, 57, 55, 48, 55, 49, 55, 50, 55, 51, 55, 52, 55, 53, 55, 54, 55, 55, 55, 56, 55, 57, 56, 48, 56, 49, 56, 50, 56, 51, 56, 52, 56, 53, 56, 54, 56, 55, 56, 56, 56, 57, 57, 48, 57, 49, 57, 50, 57, 51, 57, 52, 57, 53, 57, 54, 57, 55, 57, 56, 57, 57])) (.tmp 117))), none⟩,
             ⟨(some 119), (.val (.mov (.tmp 15))), none⟩,
             ⟨(some 120), (.val (.idxstr (.const (.str [48, 48, 48, 49, 48, 50, 48, 51, 48, 52, 48, 53, 48, 54, 48, 55, 48, 56, 48, 57, 49, 48, 49, 49, 49, 50, 49, 51, 49, 52, 49, 53, 49, 54, 49, 55, 49, 56, 49, 57, 50, 48, 50, 49, 50, 50, 50, 51, 50, 52, 50, 53, 50, 54, 50, 55, 50, 56, 50, 57, 51, 48, 51, 49, 51, 50, 51, 51, 51, 52, 51, 53, 51, 54, 51, 55, 51, 56, 51, 57, 52, 48, 52, 49, 52, 50, 52, 51, 52, 52, 52, 53, 52, 54, 52, 55, 52, 56, 52, 57, 53, 48, 53, 49, 53, 50, 53, 51, 53, 52, 53, 53, 53, 54, 53, 55, 53, 56, 53, 57, 54, 48, 54, 49, 54, 50, 54, 51, 54, 52, 54, 53, 54, 54, 54, 55, 54, 56, 54, 57, 55, 48, 55, 49, 55, 50, 55, 51, 55, 52, 55, 53, 55, 54, 55, 55, 55, 56, 55, 57, 56, 48, 56, 49, 56, 50, 56, 51, 56, 52, 56, 53, 56, 54, 56, 55, 56, 56, 56, 57, 57, 48, 57, 49, 57, 50, 57, 51, 57, 52, 57, 53, 57, 54, 57, 55, 57, 56, 57, 57])) (.tmp 119))), none⟩,
             ⟨(some 121), (.val (.iaddr 1 (.tmp 110) (.tmp 112))), none⟩,
             ⟨none, (.val (.store 1 (.tmp 121) (.tmp 118))), none⟩,
             ⟨(some 122), (.val (.iaddr 1 (.tmp 113) (.tmp 115))), none⟩,
             ⟨none, (.val (.store 1 (.tmp 122) (.tmp 120))), none⟩] [])
           (.seq
            (.draw [⟨(some 123), (.val (.mov (.tmp 0))), none⟩,
              ⟨(some 124), (.val (.mov (.tmp 4))), none⟩,
              ⟨(some 125), (.val (.bin .sub (.tmp 124) (.const (.int .i64 3)))), none⟩,
              ⟨(some 126), (.val (.mov (.tmp 0))), none⟩,
              ⟨(some 127), (.val (.mov (.tmp 4))), none⟩,
              ⟨(some 128), (.val (.bin .sub (.tmp 127) (.const (.int .i64 4)))), none⟩,
              ⟨(some 129), (.val (.mov (.tmp 14))), none⟩,
              ⟨(some 130), (.val (.bin .add (.tmp 129) (.const (.int .u32 1)))), none⟩,
              ⟨(some 131), (.val (.idxstr (.const (.str [48, 48, 48, 49, 48, 50, 48, 51, 48, 52, 48, 53, 48, 54, 48, 55, 48, 56, 48, 57, 49, 48, 49, 49, 49, 50, 49, 51, 49, 52, 49, 53, 49, 54, 49, 55, 49, 56, 49, 57, 50, 48, 50, 49, 50, 50, 50, 51, 50, 52, 50, 53, 50, 54, 50, 55, 50, 56, 50, 57, 51, 48, 51, 49, 51, 50, 51, 51, 51, 52, 51, 53, 51, 54, 51, 55, 51, 56, 51, 57, 52, 48, 52, 49, 52, 50, 52, 51, 52, 52, 52, 53, 52, 54, 52, 55, 52, 56, 52, 57, 53, 48, 53, 49, 53, 50, 53, 51, 53, 52, 53, 53, 53, 54, 53, 55, 53, 56, 53, 57, 54, 48, 54, 49, 54, 50, 54, 51, 54, 52, 54, 53, 54, 54, 54, 55, 54, 56, 54, 57, 55, 48, 55, 49, 55, 50, 55, 51, 55, 52, 55, 53, 55, 54, 55, 55, 55, 56, 55, 57, 56, 48, 56, 49, 56, 50, 56, 51, 56, 52, 56, 53, 56, 54, 56, 55, 56, 56, 56, 57, 57, 48, 57, 49, 57, 50, 57, 51, 57, 52, 57, 53, 57, 54, 57, 55, 57, 56, 57, 57])) (.tmp 130))), none⟩,
              ⟨(some 132), (.val (.mov (.tmp 14))), none⟩,
              ⟨(some 133), (.val (.idxstr (.const (.str [48, 48, 48, 49, 48, 50, 48, 51, 48, 52, 48, 53, 48, 54, 48, 55, 48, 56, 48, 57, 49, 48, 49, 49, 49, 50, 49, 51, 49, 52, 49, 53, 49, 54, 49, 55, 49, 56, 49, 57, 50, 48, 50, 49, 50, 50, 50, 51, 50, 52, 50, 53, 50, 54, 50, 55, 50, 56, 50, 57, 51, 48, 51, 49, 51, 50, 51, 51, 51, 52, 51, 53, 51, 54, 51, 55, 51, 56, 51, 57, 52, 48, 52, 49, 52, 50, 52, 51, 52, 52, 52, 53, 52, 54, 52, 55, 52, 56, 52, 57, 53, 48, 53, 49, 53, 50, 53, 51, 53, 52, 53, 53, 53, 54, 53, 55, 53, 56, 53, 57, 54, 48, 54, 49, 54, 50, 54, 51, 54, 52, 54, 53, 54, 54, 54, 55, 54, 56, 54, 57, 55, 48, 55, 49, 55, 50, 55, 51, 55, 52, 55, 53, 55, 54, 55, 55, 55, 56, 55, 57, 56, 48, 56, 49, 56, 50, 56, 51, 56, 52, 56, 53, 56, 54, 56, 55, 56, 56, 56, 57, 57, 48, 57, 49, 57, 50, 57, 51, 57, 52, 57, 53, 57, 54, 57, 55, 57, 56, 57, 57])) (.tmp 132))), none⟩,
              ⟨(some 134), (.val (.iaddr 1 (.tmp 123) (.tmp 125))), none⟩,
              ⟨none, (.val (.store 1 (.tmp 134) (.tmp 131))), none⟩,
              ⟨(some 135), (.val (.iaddr 1 (.tmp 126) (.tmp 128))), none⟩,
              ⟨none, (.val (.store 1 (.tmp 135) (.tmp 133))), none⟩] [])
            (.region [⟨(some 136), (.val (.mov (.tmp 4))), none⟩,
              ⟨(some 137), (.val (.bin .sub (.tmp 136) (.const (.int .i64 4)))), none⟩,
              ⟨(some 4), (.val (.mov (.tmp 137))), none⟩]))))))
       .skip))
     (.seq
      (.seq
       (.region [⟨(some 138), (.val (.mov (.tmp 4))), none⟩,
         ⟨(some 139), (.val (.bin .geq (.tmp 138) (.const (.int .i64 2)))), none⟩])
       (.cond (.tmp 139)
        (.seq
         (.region [⟨(some 140), (.val (.mov (.tmp 12))), none⟩,
           ⟨(some 141), (.val (.bin .rem (.tmp 140) (.const (.int .u32 100)))), none⟩,
           ⟨(some 142), (.val (.bin .mul (.tmp 141) (.const (.int .u32 2)))), none⟩,
           ⟨(some 16), (.val (.mov (.tmp 142))), none⟩])
         (.seq
          (.region [⟨(some 143), (.val (.mov (.tmp 12))), none⟩,
            ⟨(some 144), (.val (.bin .quo (.tmp 143) (.const (.int .u32 100)))), none⟩,
            ⟨(some 12), (.val (.mov (.tmp 144))), none⟩])
          (.seq
           (.draw [⟨(some 145), (.val (.mov (.tmp 0))), none⟩,
             ⟨(some 146), (.val (.mov (.tmp 4))), none⟩,
             ⟨(some 147), (.val (.bin .sub (.tmp 146) (.const (.int .i64 1)))), none⟩,
             ⟨(some 148), (.val (.mov (.tmp 0))), none⟩,
             ⟨(some 149), (.val (.mov (.tmp 4))), none⟩,
             ⟨(some 150), (.val (.bin .sub (.tmp 149) (.const (.int .i64 2)))), none⟩,
             ⟨(some 151), (.val (.mov (.tmp 16))), none⟩,
             ⟨(some 152), (.val (.bin .add (.tmp 151) (.const (.int .u32 1)))), none⟩,
             ⟨(some 153), (.val (.idxstr (.const (.str [48, 48, 48, 49, 48, 50, 48, 51, 48, 52, 48, 53, 48, 54, 48, 55, 48, 56, 48, 57, 49, 48, 49, 49, 49, 50, 49, 51, 49, 52, 49, 53, 49, 54, 49, 55, 49, 56, 49, 57, 50, 48, 50, 49, 50, 50, 50, 51, 50, 52, 50, 53, 50, 54, 50, 55, 50, 56, 50, 57, 51, 48, 51, 49, 51, 50, 51, 51, 51, 52, 51, 53, 51, 54, 51, 55, 51, 56, 51, 57, 52, 48, 52, 49, 52, 50, 52, 51, 52, 52, 52, 53, 52, 54, 52, 55, 52, 56, 52, 57, 53, 48, 53, 49, 53, 50, 53, 51, 53, 52, 53, 53, 53, 54, 53, 55, 53, 56, 53, 57, 54, 48, 54, 49, 54, 50, 54, 51, 54, 52, 54, 53, 54, 54, 54, 55, 54, 56, 54, 57, 55, 48, 55, 49, 55, 50, 55, 51, 55, 52, 55, 53, 55, 54, 55, 55, 55, 56, 55, 57, 56, 48, 56, 49, 56, 50, 56, 51, 56, 52, 56, 53, 56, 54, 56, 55, 56, 56, 56, 57, 57, 48, 57, 49, 57, 50, 57, 51, 57, 52, 57, 53, 57, 54, 57, 55, 57, 56, 57, 57])) (.tmp 152))), none⟩,
             ⟨(some 154), (.val (.mov (.tmp 16))), none⟩,
             ⟨(some 155), (.val (.idxstr (.const (.str [48, 48, 48, 49, 48, 50, 48, 51, 48, 52, 48, 53, 48, 54, 48, 55, 48, 56, 48, 57, 49, 48, 49, 49, 49, 50, 49, 51, 49, 52, 49, 53, 49, 54, 49, 55, 49, 56, 49, 57, 50, 48, 50, 49, 50, 50, 50, 51, 50, 52, 50, 53, 50, 54, 50, 55, 50, 56, 50, 57, 51, 48, 51, 49, 51, 50, 51, 51, 51, 52, 51, 53, 51, 54, 51, 55, 51, 56, 51, 57, 52, 48, 52, 49, 52, 50, 52, 51, 52, 52, 52, 53, 52, 54, 52, 55, 52, 56, 52, 57, 53, 48, 53, 49, 53, 50, 53, 51, 53, 52, 53, 53, 53, 54, 53, 55, 53, 56, 53, 57, 54, 48, 54, 49, 54, 50, 54, 51, 54, 52, 54, 53, 54, 54, 54, 55, 54, 56, 54, 57, 55, 48, 55, 49, 55, 50, 55, 51, 55, 52, 55, 53, 55, 54, 55, 55, 55, 56, 55, 57, 56, 48, 56, 49, 56, 50, 56, 51, 56, 52, 56, 53, 56, 54, 56, 55, 56, 56, 56, 57, 57, 48, 57, 49, 57, 50, 57, 51, 57, 52, 57, 53, 57, 54, 57, 55, 57, 56, 57, 57])) (.tmp 154))), none⟩,
             ⟨(some 156), (.val (.iaddr 1 (.tmp 145) (.tmp 147))), none⟩,
             ⟨none, (.val (.store 1 (.tmp 156) (.tmp 153))), none⟩,
             ⟨(some 157), (.val (.iaddr 1 (.tmp 148) (.tmp 150))), none⟩,
             ⟨none, (.val (.store 1 (.tmp 157) (.tmp 155))), none⟩] [])
           (.region [⟨(some 158), (.val (.mov (.tmp 4))), none⟩,
             ⟨(some 159), (.val (.bin .sub (.tmp 158) (.const (.int .i64 2)))), none⟩,
             ⟨(some 4), (.val (.mov (.tmp 159))), none⟩]))))
        .skip))
      (.seq
       (.region [⟨(some 160), (.val (.mov (.tmp 4))), none⟩,
         ⟨(some 161), (.val (.bin .gtr (.tmp 160) (.const (.int .i64 0)))), none⟩])
       (.cond (.tmp 161)
        (.region [⟨(some 162), (.val (.mov (.tmp 0))), none⟩,
          ⟨(some 163), (.val (.mov (.tmp 12))), none⟩,
          ⟨(some 164), (.val (.bin .add (.const (.int .u32 48)) (.tmp 163))), none⟩,
          ⟨(some 165), (.val (.conv (.int .u8) (.tmp 164))), none⟩,
          ⟨(some 166), (.val (.iaddr 1 (.tmp 162) (.const (.int .i64 0)))), none⟩,
          ⟨none, (.val (.store 1 (.tmp 166) (.tmp 165))), none⟩])
        .skip))))))),
 []⟩
theorem ok65 : cFun Tryd.prog G Tryd.f65 = some F_internal_strconv_formatBase10 := by kernel_rfl

end Go.Proofs.YtblcomejcahkdaaDoor.Ev
end
section
namespace Go.Proofs.YtblcomejcahkdaaDoor.Ev
open Go

/- internal/strconv.formatBits -/
abbrev n_internal_strconv_formatBits : Nat := 66
def F_internal_strconv_formatBits_l0 : ICode :=
 (.seq
  (.seq
   (.region [⟨(some 44), (.val (.mov (.tmp 1))), none⟩,
     ⟨(some 45), (.val (.mov (.tmp 15))), none⟩,
     ⟨(some 46), (.val (.bin .geq (.tmp 44) (.tmp 45))), none⟩])
   (.cond (.tmp 46)
    .skip
    (.exit 0)))
  (.block 1
   (.seq
    (.region [⟨(some 47), (.val (.mov (.tmp 13))), none⟩,
      ⟨(some 48), (.val (.bin .sub (.tmp 47) (.const (.int .i64 1)))), none⟩,
      ⟨(some 13), (.val (.mov (.tmp 48))), none⟩])
    (.seq
     (.region [⟨(some 49), (.val (.mov (.tmp 13))), none⟩,
       ⟨(some 50), (.val (.mov (.tmp 1))), none⟩,
       ⟨(some 51), (.val (.mov (.tmp 16))), none⟩,
       ⟨(some 52), (.val (.bin .and (.tmp 50) (.tmp 51))), none⟩,
       ⟨(some 53), (.val (.idxstr (.const (.str [48, 49, 50, 51, 52, 53, 54, 55, 56, 57, 97, 98, 99, 100, 101, 102, 103, 104, 105, 106, 107, 108, 109, 110, 111, 112, 113, 114, 115, 116, 117, 118, 119, 120, 121, 122])) (.tmp 52))), none⟩,
       ⟨(some 54), (.val (.iaddrArr 65 1 (.tmp 12) (.tmp 49))), none⟩,
       ⟨none, (.val (.store 1 (.tmp 54) (.tmp 53))), none⟩])
     (.region [⟨(some 55), (.val (.mov (.tmp 1))), none⟩,
       ⟨(some 56), (.val (.mov (.tmp 14))), none⟩,
       ⟨(some 57), (.val (.bin .shr (.tmp 55) (.tmp 56))), none⟩,
       ⟨(some 1), (.val (.mov (.tmp 57))), none⟩])))))
def F_internal_strconv_formatBits_l1 : ICode :=
 (.seq
  (.seq
   (.region [⟨(some 66), (.val (.mov (.tmp 1))), none⟩,
     ⟨(some 67), (.val (.mov (.tmp 17))), none⟩,
     ⟨(some 68), (.val (.bin .geq (.tmp 66) (.tmp 67))), none⟩])
   (.cond (.tmp 68)
    .skip
    (.exit 2)))
  (.block 3
   (.seq
    (.region [⟨(some 69), (.val (.mov (.tmp 13))), none⟩,
      ⟨(some 70), (.val (.bin .sub (.tmp 69) (.const (.int .i64 1)))), none⟩,
      ⟨(some 13), (.val (.mov (.tmp 70))), none⟩])
    (.seq
     (.region [⟨(some 71), (.val (.mov (.tmp 1))), none⟩,
       ⟨(some 72), (.val (.mov (.tmp 17))), none⟩,
       ⟨(some 73), (.val (.bin .quo (.tmp 71) (.tmp 72))), none⟩,
       ⟨(some 18), (.val (.mov (.tmp 73))), none⟩])
     (.seq
      (.region [⟨(some 74), (.val (.mov (.tmp 13))), none⟩,
        ⟨(some 75), (.val (.mov (.tmp 1))), none⟩,
        ⟨(some 76), (.val (.mov (.tmp 18))), none⟩,
        ⟨(some 77), (.val (.mov (.tmp 17))), none⟩,
        ⟨(some 78), (.val (.bin .mul (.tmp 76) (.tmp 77))), none⟩,
        ⟨(some 79), (.val (.bin .sub (.tmp 75) (.tmp 78))), none⟩,
        ⟨(some 80), (.val (.idxstr (.const (.str [48, 49, 50, 51, 52, 53, 54, 55, 56, 57, 97, 98, 99, 100, 101, 102, 103, 104, 105, 106, 107, 108, 109, 110, 111, 112, 113, 114, 115, 116, 117, 118, 119, 120, 121, 122])) (.tmp 79))), none⟩,
        ⟨(some 81), (.val (.iaddrArr 65 1 (.tmp 12) (.tmp 74))), none⟩,
        ⟨none, (.val (.store 1 (.tmp 81) (.tmp 80))), none⟩])
      (.region [⟨(some 82), (.val (.mov (.tmp 18))), none⟩,
        ⟨(some 1), (.val (.mov (.tmp 82))), none⟩]))))))
def F_internal_strconv_formatBits : IFun :=
 ⟨102,
 (.seq
  (.region [⟨(some 10), (.val (.mov (.const .nilslice))), none⟩,
    ⟨(some 11), (.val (.mov (.const (.str [])))), none⟩])
  (.seq
   (.seq
    (.region [⟨(some 19), (.val (.mov (.tmp 2))), none⟩,
      ⟨(some 20), (.val (.bin .lss (.tmp 19) (.const (.int .i64 2)))), none⟩,
      ⟨(some 21), (.val (.mov (.tmp 20))), none⟩,
      ⟨(some 22), (.val (.mov (.tmp 2))), (some (21, false))⟩,
      ⟨(some 23), (.val (.eq false (.prim 1) (.tmp 22) (.const (.int .i64 10)))), (some (21, false))⟩,
      ⟨(some 24), (.val (.pick (.tmp 21) (.const (.bool true)) (.tmp 23))), none⟩,
      ⟨(some 25), (.val (.mov (.tmp 24))), none⟩,
      ⟨(some 26), (.val (.mov (.tmp 2))), (some (25, false))⟩,
      ⟨(some 27), (.val (.bin .gtr (.tmp 26) (.const (.int .i64 36)))), (some (25, false))⟩,
      ⟨(some 28), (.val (.pick (.tmp 25) (.const (.bool true)) (.tmp 27))), none⟩])
    (.cond (.tmp 28)
     (.region [⟨(some 29), (.val (.iface 9 (.const (.str [115, 116, 114, 99, 111, 110, 118, 58, 32, 105, 108, 108, 101, 103, 97, 108, 32, 65, 112, 112, 101, 110, 100, 73, 110, 116, 47, 70, 111, 114, 109, 97, 116, 73, 110, 116, 32, 98, 97, 115, 101])))), none⟩,
       ⟨none, (.panic (.tmp 29)), none⟩])
     .skip))
   (.seq
    (.region [⟨(some 12), (.val (.alloc 91 [(.int .u8 0), (.int .u8 0), (.int .u8 0), (.int .u8 0), (.int .u8 0), (.int .u8 0), (.int .u8 0), (.int .u8 0), (.int .u8 0), (.int .u8 0), (.int .u8 0), (.int .u8 0), (.int .u8 0), (.int .u8 0), (.int .u8 0), (.int .u8 0), (.int .u8 0), (.int .u8 0), (.int .u8 0), (.int .u8 0), (.int .u8 0), (.int .u8 0), (.int .u8 0), (.int .u8 0), (.int .u8 0), (.int .u8 0), (.int .u8 0), (.int .u8 0), (.int .u8 0), (.int .u8 0), (.int .u8 0), (.int .u8 0), (.int .u8 0), (.int .u8 0), (.int .u8 0), (.int .u8 0), (.int .u8 0), (.int .u8 0), (.int .u8 0), (.int .u8 0), (.int .u8 0), (.int .u8 0), (.int .u8 0), (.int .u8 0), (.int .u8 0), (.int .u8 0), (.int .u8 0), (.int .u8 0), (.int .u8 0), (.int .u8 0), (.int .u8 0), (.int .u8 0), (.int .u8 0), (.int .u8 0), (.int .u8 0), (.int .u8 0), (.int .u8 0), (.int .u8 0), (.int .u8 0), (.int .u8 0), (.int .u8 0), (.int .u8 0), (.int .u8 0), (.int .u8 0), (.int .u8 0)])), none⟩])
    (.seq
     (.region [⟨(some 13), (.val (.mov (.const (.int .i64 65)))), none⟩])
     (.seq
      (.seq
       (.region [⟨(some 30), (.val (.mov (.tmp 3))), none⟩])
       (.cond (.tmp 30)
        (.region [⟨(some 31), (.val (.mov (.tmp 1))), none⟩,
          ⟨(some 32), (.val (.un .neg (.tmp 31))), none⟩,
          ⟨(some 1), (.val (.mov (.tmp 32))), none⟩])
        .skip))
      (.seq
       (.seq
        (.region [⟨(some 33), (.val (.mov (.tmp 2))), none⟩,
          ⟨(some 34), (.call (.const (.func 73 [] [])) [(.tmp 33)]), none⟩])
        (.cond (.tmp 34)
         (.seq
          (.region [⟨(some 35), (.val (.mov (.tmp 2))), none⟩,
            ⟨(some 36), (.val (.conv (.int .u64) (.tmp 35))), none⟩,
            ⟨(some 37), (.call (.const (.func 74 [] [])) [(.tmp 36)]), none⟩,
            ⟨(some 38), (.val (.conv (.int .u64) (.tmp 37))), none⟩,
            ⟨(some 14), (.val (.mov (.tmp 38))), none⟩])
          (.seq
           (.region [⟨(some 39), (.val (.mov (.tmp 2))), none⟩,
             ⟨(some 40), (.val (.conv (.int .u64) (.tmp 39))), none⟩,
             ⟨(some 15), (.val (.mov (.tmp 40))), none⟩])
           (.seq
            (.region [⟨(some 41), (.val (.mov (.tmp 2))), none⟩,
              ⟨(some 42), (.val (.conv (.int .u64) (.tmp 41))), none⟩,
              ⟨(some 43), (.val (.bin .sub (.tmp 42) (.const (.int .u64 1)))), none⟩,
              ⟨(some 16), (.val (.mov (.tmp 43))), none⟩])
            (.seq
             (.block 0
              (.loop F_internal_strconv_formatBits_l0))
             (.seq
              (.region [⟨(some 58), (.val (.mov (.tmp 13))), none⟩,
                ⟨(some 59), (.val (.bin .sub (.tmp 58) (.const (.int .i64 1)))), none⟩,
                ⟨(some 13), (.val (.mov (.tmp 59))), none⟩])
              (.region [⟨(some 60), (.val (.mov (.tmp 13))), none⟩,
                ⟨(some 61), (.val (.mov (.tmp 1))), none⟩,
                ⟨(some 62), (.val (.idxstr (.const (.str [48, 49, 50, 51, 52, 53, 54, 55, 56, 57, 97, 98, 99, 100, 101, 102, 103, 104, 105, 106, 107, 108, 109, 110, 111, 112, 113, 114, 115, 116, 117, 118, 119, 120, 121, 122])) (.tmp 61))), none⟩,
                ⟨(some 63), (.val (.iaddrArr 65 1 (.tmp 12) (.tmp 60))), none⟩,
                ⟨none, (.val (.store 1 (.tmp 63) (.tmp 62))), none⟩]))))))
         (.seq
          (.region [⟨(some 64), (.val (.mov (.tmp 2))), none⟩,
            ⟨(some 65), (.val (.conv (.int .u64) (.tmp 64))), none⟩,
            ⟨(some 17), (.val (.mov (.tmp 65))), none⟩])
          (.seq
           (.block 2
            (.loop F_internal_strconv_formatBits_l1))
           (.seq
            (.region [⟨(some 83), (.val (.mov (.tmp 13))), none⟩,
              ⟨(some 84), (.val (.bin .sub (.tmp 83) (.const (.int .i64 1)))), none⟩,
              ⟨(some 13), (.val (.mov (.tmp 84))), none⟩])
            (.region [⟨(some 85), (.val (.mov (.tmp 13))), none⟩,
              ⟨(some 86), (.val (.mov (.tmp 1))), none⟩,
              ⟨(some 87), (.val (.idxstr (.const (.str [48, 49, 50, 51, 52, 53, 54, 55, 56, 57, 97, 98, 99, 100, 101, 102, 103, 104, 105, 106, 107, 108, 109, 110, 111, 112, 113, 114, 115, 116, 117, 118, 119, 120, 121, 122])) (.tmp 86))), none⟩,
              ⟨(some 88), (.val (.iaddrArr 65 1 (.tmp 12) (.tmp 85))), none⟩,
              ⟨none, (.val (.store 1 (.tmp 88) (.tmp 87))), none⟩]))))))
       (.seq
        (.seq
         (.region [⟨(some 89), (.val (.mov (.tmp 3))), none⟩])
         (.cond (.tmp 89)
          (.seq
           (.region [⟨(some 90), (.val (.mov (.tmp 13))), none⟩,
             ⟨(some 91), (.val (.bin .sub (.tmp 90) (.const (.int .i64 1)))), none⟩,
             ⟨(some 13), (.val (.mov (.tmp 91))), none⟩])
           (.region [⟨(some 92), (.val (.mov (.tmp 13))), none⟩,
             ⟨(some 93), (.val (.iaddrArr 65 1 (.tmp 12) (.tmp 92))), none⟩,
             ⟨none, (.val (.store 1 (.tmp 93) (.const (.int .u8 45)))), none⟩]))
          .skip))
        (.seq
         (.seq
          (.region [⟨(some 94), (.val (.mov (.tmp 4))), none⟩])
          (.cond (.tmp 94)
           (.seq
            (.region [⟨(some 95), (.val (.mov (.tmp 0))), none⟩,
              ⟨(some 96), (.val (.mov (.tmp 13))), none⟩,
              ⟨(some 97), (.val (.slarr 65 1 (.tmp 12) (some (.tmp 96)) none none)), none⟩,
              ⟨(some 98), (.val (.append 5 1 1 (.tmp 95) (.tmp 97))), none⟩,
              ⟨(some 10), (.val (.mov (.tmp 98))), none⟩])
            .ret)
           .skip))
         (.seq
          (.region [⟨(some 99), (.val (.mov (.tmp 13))), none⟩,
            ⟨(some 100), (.val (.slarr 65 1 (.tmp 12) (some (.tmp 99)) none none)), none⟩,
            ⟨(some 101), (.val (.conv .text (.tmp 100))), none⟩,
            ⟨(some 11), (.val (.mov (.tmp 101))), none⟩])
          .ret))))))))),
 [.tmp 10, .tmp 11]⟩
theorem ok66 : cFun Tryd.prog G Tryd.f66 = some F_internal_strconv_formatBits := by kernel_rfl

/- balustrade/balustraderef05.Words -/
abbrev n_r05_Words : Nat := 69
def F_r05_Words : IFun :=
 ⟨2,
 (.seq
  (.region [⟨(some 0), (.val (.mov (.const .nilslice))), none⟩])
  (.seq
   (.region [⟨(some 1), (.val (.bslice 9 1 18 [(.str [])] [(0, (.const (.str [102, 110]))), (1, (.const (.str [118, 97, 114]))), (2, (.const (.str [105, 102]))), (3, (.const (.str [101, 108, 115, 101]))), (4, (.const (.str [119, 104, 105, 108, 101]))), (5, (.const (.str [102, 111, 114]))), (6, (.const (.str [98, 114, 101, 97, 107]))), (7, (.const (.str [99, 111, 110, 116, 105, 110, 117, 101]))), (8, (.const (.str [114, 101, 116, 117, 114, 110]))), (9, (.const (.str [112, 114, 105, 110, 116]))), (10, (.const (.str [108, 101, 110]))), (11, (.const (.str [110, 101, 119]))), (12, (.const (.str [116, 114, 117, 101]))), (13, (.const (.str [102, 97, 108, 115, 101]))), (14, (.const (.str [110, 105, 108]))), (15, (.const (.str [105, 110, 116]))), (16, (.const (.str [98, 111, 111, 108]))), (17, (.const (.str [97, 114, 114])))])), none⟩,
     ⟨(some 0), (.val (.mov (.tmp 1))), none⟩])
   .ret)),
 [.tmp 0]⟩
theorem ok69 : cFun Tryd.prog G Tryd.f69 = some F_r05_Words := by kernel_rfl

/- internal/strconv.log10Pow2 -/
abbrev n_internal_strconv_log10Pow2 : Nat := 70
def F_internal_strconv_log10Pow2 : IFun :=
 ⟨6,
 (.seq
  (.region [⟨(some 2), (.val (.mov (.const (.int .i64 0)))), none⟩])
  (.seq
   (.region [⟨(some 3), (.val (.mov (.tmp 0))), none⟩,
     ⟨(some 4), (.val (.bin .mul (.tmp 3) (.const (.int .i64 78913)))), none⟩,
     ⟨(some 5), (.val (.bin .shr (.tmp 4) (.const (.int .u64 18)))), none⟩,
     ⟨(some 2), (.val (.mov (.tmp 5))), none⟩])
   .ret)),
 [.tmp 2]⟩
theorem ok70 : cFun Tryd.prog G Tryd.f70 = some F_internal_strconv_log10Pow2 := by kernel_rfl

/- math/bits.Len64 -/
abbrev n_math_bits_Len64 : Nat := 71
def F_math_bits_Len64 : IFun :=
 ⟨25,
 (.seq
  (.region [⟨(some 2), (.val (.mov (.const (.int .i64 0)))), none⟩])
  (.seq
   (.seq
    (.region [⟨(some 3), (.val (.mov (.tmp 0))), none⟩,
      ⟨(some 4), (.val (.bin .geq (.tmp 3) (.const (.int .u64 4294967296)))), none⟩])
    (.cond (.tmp 4)
     (.seq
      (.region [⟨(some 5), (.val (.mov (.tmp 0))), none⟩,
        ⟨(some 6), (.val (.bin .shr (.tmp 5) (.const (.int .u64 32)))), none⟩,
        ⟨(some 0), (.val (.mov (.tmp 6))), none⟩])
      (.region [⟨(some 2), (.val (.mov (.const (.int .i64 32)))), none⟩]))
     .skip))
   (.seq
    (.seq
     (.region [⟨(some 7), (.val (.mov (.tmp 0))), none⟩,
       ⟨(some 8), (.val (.bin .geq (.tmp 7) (.const (.int .u64 65536)))), none⟩])
     (.cond (.tmp 8)
      (.seq
       (.region [⟨(some 9), (.val (.mov (.tmp 0))), none⟩,
         ⟨(some 10), (.val (.bin .shr (.tmp 9) (.const (.int .u64 16)))), none⟩,
         ⟨(some 0), (.val (.mov (.tmp 10))), none⟩])
       (.region [⟨(some 11), (.val (.mov (.tmp 2))), none⟩,
         ⟨(some 12), (.val (.bin .add (.tmp 11) (.const (.int .i64 16)))), none⟩,
         ⟨(some 2), (.val (.mov (.tmp 12))), none⟩]))
      .skip))
    (.seq
     (.seq
      (.region [⟨(some 13), (.val (.mov (.tmp 0))), none⟩,
        ⟨(some 14), (.val (.bin .geq (.tmp 13) (.const (.int .u64 256)))), none⟩])
      (.cond (.tmp 14)
       (.seq
        (.region [⟨(some 15), (.val (.mov (.tmp 0))), none⟩,
          ⟨(some 16), (.val (.bin .shr (.tmp 15) (.const (.int .u64 8)))), none⟩,
          ⟨(some 0), (.val (.mov (.tmp 16))), none⟩])
        (.region [⟨(some 17), (.val (.mov (.tmp 2))), none⟩,
          ⟨(some 18), (.val (.bin .add (.tmp 17) (.const (.int .i64 8)))), none⟩,
          ⟨(some 2), (.val (.mov (.tmp 18))), none⟩]))
       .skip))
     (.seq
      (.region [⟨(some 19), (.val (.mov (.tmp 2))), none⟩,
        ⟨(some 20), (.val (.mov (.tmp 0))), none⟩,
        ⟨(some 21), (.val (.conv (.int .u8) (.tmp 20))), none⟩,
        ⟨(some 22), (.val (.idxstr (.const (.str [0, 1, 2, 2, 3, 3, 3, 3, 4, 4, 4, 4, 4, 4, 4, 4, 5, 5, 5, 5, 5, 5, 5, 5, 5, 5, 5, 5, 5, 5, 5, 5, 6, 6, 6, 6, 6, 6, 6, 6, 6, 6, 6, 6, 6, 6, 6, 6, 6, 6, 6, 6, 6, 6, 6, 6, 6, 6, 6, 6, 6, 6, 6, 6, 7, 7, 7, 7, 7, 7, 7, 7, 7, 7, 7, 7, 7, 7, 7, 7, 7, 7, 7, 7, 7, 7, 7, 7, 7, 7, 7, 7, 7, 7, 7, 7, 7, 7, 7, 7, 7, 7, 7, 7, 7, 7, 7, 7, 7, 7, 7, 7, 7, 7, 7, 7, 7, 7, 7, 7, 7, 7, 7, 7, 7, 7, 7, 7, 8, 8, 8, 8, 8, 8, 8, 8, 8, 8, 8, 8, 8, 8, 8, 8, 8, 8, 8, 8, 8, 8, 8, 8, 8, 8, 8, 8, 8, 8, 8, 8, 8, 8, 8, 8, 8, 8, 8, 8, 8, 8, 8, 8, 8, 8, 8, 8, 8, 8, 8, 8, 8, 8, 8, 8, 8, 8, 8, 8, 8, 8, 8, 8, 8, 8, 8, 8, 8, 8, 8, 8, 8, 8, 8, 8, 8, 8, 8, 8, 8, 8, 8, 8, 8, 8, 8, 8, 8, 8, 8, 8, 8, 8, 8, 8, 8, 8, 8, 8, 8, 8, 8, 8, 8, 8, 8, 8, 8, 8, 8, 8, 8, 8, 8, 8, 8, 8, 8, 8, 8, 8, 8, 8, 8, 8, 8, 8])) (.tmp 21))), none⟩,
        ⟨(some 23), (.val (.conv (.int .i64) (.tmp 22))), none⟩,
        ⟨(some 24), (.val (.bin .add (.tmp 19) (.tmp 23))), none⟩,
        ⟨(some 2), (.val (.mov (.tmp 24))), none⟩])
      .ret))))),
 [.tmp 2]⟩
theorem ok71 : cFun Tryd.prog G Tryd.f71 = some F_math_bits_Len64 := by kernel_rfl

/- internal/strconv.bool2[int] -/
abbrev n_internal_strconv_bool2_int : Nat := 72
def F_internal_strconv_bool2_int : IFun :=
 ⟨4,
 (.seq
  (.region [⟨(some 2), (.val (.mov (.const (.int .i64 0)))), none⟩])
  (.seq
   (.seq
    (.region [⟨(some 3), (.val (.mov (.tmp 0))), none⟩])
    (.cond (.tmp 3)
     (.seq
      (.region [⟨(some 2), (.val (.mov (.const (.int .i64 1)))), none⟩])
      .ret)
     .skip))
   (.seq
    (.region [⟨(some 2), (.val (.mov (.const (.int .i64 0)))), none⟩])
    .ret))),
 [.tmp 2]⟩
theorem ok72 : cFun Tryd.prog G Tryd.f72 = some F_internal_strconv_bool2_int := by kernel_rfl

/- internal/strconv.isPowerOfTwo -/
abbrev n_internal_strconv_isPowerOfTwo : Nat := 73
def F_internal_strconv_isPowerOfTwo : IFun :=
 ⟨8,
 (.seq
  (.region [⟨(some 2), (.val (.mov (.const (.bool false)))), none⟩])
  (.seq
   (.region [⟨(some 3), (.val (.mov (.tmp 0))), none⟩,
     ⟨(some 4), (.val (.mov (.tmp 0))), none⟩,
     ⟨(some 5), (.val (.bin .sub (.tmp 4) (.const (.int .i64 1)))), none⟩,
     ⟨(some 6), (.val (.bin .and (.tmp 3) (.tmp 5))), none⟩,
     ⟨(some 7), (.val (.eq false (.prim 1) (.tmp 6) (.const (.int .i64 0)))), none⟩,
     ⟨(some 2), (.val (.mov (.tmp 7))), none⟩])
   .ret)),
 [.tmp 2]⟩
theorem ok73 : cFun Tryd.prog G Tryd.f73 = some F_internal_strconv_isPowerOfTwo := by kernel_rfl

/- math/bits.TrailingZeros -/
abbrev n_math_bits_TrailingZeros : Nat := 74
def F_math_bits_TrailingZeros : IFun :=
 ⟨8,
 (.seq
  (.region [⟨(some 2), (.val (.mov (.const (.int .i64 0)))), none⟩])
  (.seq
   (.cond (.const (.bool false))
    (.seq
     (.region [⟨(some 3), (.val (.mov (.tmp 0))), none⟩,
       ⟨(some 4), (.val (.conv (.int .u32) (.tmp 3))), none⟩,
       ⟨(some 5), (.call (.const (.func 75 [] [])) [(.tmp 4)]), none⟩,
       ⟨(some 2), (.val (.mov (.tmp 5))), none⟩])
     .ret)
    .skip)
   (.seq
    (.region [⟨(some 6), (.val (.mov (.tmp 0))), none⟩,
      ⟨(some 7), (.call (.const (.func 76 [] [])) [(.tmp 6)]), none⟩,
      ⟨(some 2), (.val (.mov (.tmp 7))), none⟩])
    .ret))),
 [.tmp 2]⟩
theorem ok74 : cFun Tryd.prog G Tryd.f74 = some F_math_bits_TrailingZeros := by kernel_rfl

/- math/bits.TrailingZeros32 -/
abbrev n_math_bits_TrailingZeros32 : Nat := 75
def F_math_bits_TrailingZeros32 : IFun :=
 ⟨14,
 (.seq
  (.region [⟨(some 2), (.val (.mov (.const (.int .i64 0)))), none⟩])
  (.seq
   (.seq
    (.region [⟨(some 3), (.val (.mov (.tmp 0))), none⟩,
      ⟨(some 4), (.val (.eq false (.prim 1) (.tmp 3) (.const (.int .u32 0)))), none⟩])
    (.cond (.tmp 4)
     (.seq
      (.region [⟨(some 2), (.val (.mov (.const (.int .i64 32)))), none⟩])
      .ret)
     .skip))
   (.seq
    (.region [⟨(some 5), (.val (.mov (.tmp 0))), none⟩,
      ⟨(some 6), (.val (.mov (.tmp 0))), none⟩,
      ⟨(some 7), (.val (.un .neg (.tmp 6))), none⟩,
      ⟨(some 8), (.val (.bin .and (.tmp 5) (.tmp 7))), none⟩,
      ⟨(some 9), (.val (.bin .mul (.tmp 8) (.const (.int .u32 125613361)))), none⟩,
      ⟨(some 10), (.val (.bin .shr (.tmp 9) (.const (.int .u64 27)))), none⟩,
      ⟨(some 11), (.val (.iaddrArr 32 1 (.const (.ptr 4 0)) (.tmp 10))), none⟩,
      ⟨(some 12), (.val (.load none (.tmp 11))), none⟩,
      ⟨(some 13), (.val (.conv (.int .i64) (.tmp 12))), none⟩,
      ⟨(some 2), (.val (.mov (.tmp 13))), none⟩])
    .ret))),
 [.tmp 2]⟩
theorem ok75 : cFun Tryd.prog G Tryd.f75 = some F_math_bits_TrailingZeros32 := by kernel_rfl

/- math/bits.TrailingZeros64 -/
abbrev n_math_bits_TrailingZeros64 : Nat := 76
def F_math_bits_TrailingZeros64 : IFun :=
 ⟨14,
 (.seq
  (.region [⟨(some 2), (.val (.mov (.const (.int .i64 0)))), none⟩])
  (.seq
   (.seq
    (.region [⟨(some 3), (.val (.mov (.tmp 0))), none⟩,
      ⟨(some 4), (.val (.eq false (.prim 1) (.tmp 3) (.const (.int .u64 0)))), none⟩])
    (.cond (.tmp 4)
     (.seq
      (.region [⟨(some 2), (.val (.mov (.const (.int .i64 64)))), none⟩])
      .ret)
     .skip))
   (.seq
    (.region [⟨(some 5), (.val (.mov (.tmp 0))), none⟩,
      ⟨(some 6), (.val (.mov (.tmp 0))), none⟩,
      ⟨(some 7), (.val (.un .neg (.tmp 6))), none⟩,
      ⟨(some 8), (.val (.bin .and (.tmp 5) (.tmp 7))), none⟩,
      ⟨(some 9), (.val (.bin .mul (.tmp 8) (.const (.int .u64 285870213051353865)))), none⟩,
      ⟨(some 10), (.val (.bin .shr (.tmp 9) (.const (.int .u64 58)))), none⟩,
      ⟨(some 11), (.val (.iaddrArr 64 1 (.const (.ptr 5 0)) (.tmp 10))), none⟩,
      ⟨(some 12), (.val (.load none (.tmp 11))), none⟩,
      ⟨(some 13), (.val (.conv (.int .i64) (.tmp 12))), none⟩,
      ⟨(some 2), (.val (.mov (.tmp 13))), none⟩])
    .ret))),
 [.tmp 2]⟩
theorem ok76 : cFun Tryd.prog G Tryd.f76 = some F_math_bits_TrailingZeros64 := by kernel_rfl

end Go.Proofs.YtblcomejcahkdaaDoor.Ev
end
section
namespace Go.Proofs.YtblcomejcahkdaaDoor.Ev
open Go Go.RowKit

/-- A run of a law: the machine's call returns, and what was there stands asx it stood. -/
theorem law_calls {P : Program} {G : List Nat} (hmix : P.follows .mixedOrders = true) {T : Nat → Option Ent} (hT : ∀ f e, T f = some e → EntOk P G f e) {k f : Nat} {F : IFun} (hf : T f = some (.go F))
    {args : List EV} {m m' : Mem} {b : Bool} (h : evFun T k f args m = some (.ret (.bool b) m')) {ρ : Ren} {w : World} {args' : Array Value} (hR : R w.heap.size ρ m w) (hG : Globs G ρ)
    (hro : ∀ b L, ρ b = some L → Live m b → L.ro = true) (hv : VRs ρ args args'.toList) : Calls P f args' w fun e w' => e = .returned (.bool b) ∧ Below w.heap.size w w' := by
  cases k with
  | zero => simp [evFun] at h
  | succ k =>
    simp only [evFun, hf, evEnt] at h
    obtain ⟨fn, h1, h2⟩ := hT f _ hf
    obtain ⟨_, hc⟩ := body_sound hmix (evFun_ok hmix hT k) k h1 h2 h hR hG hv
    refine hc.mono fun e w' hp => ?_
    obtain ⟨ρ', v', rfl, hvv, _, hs⟩ := hp
    cases hvv
    refine ⟨rfl, hs.os, hs.tape, hs.output, hs.size, fun i hi => hs.kept i hi ?_⟩
    rintro ⟨b, L, h1, h2, h3, _⟩
    rw [hro b L h1 h2] at h3
    cases h3

/-- Where a call begins that is given no memory: the globals alone, of which nothing is known. -/
def ren0 (n : Nat) : Ren := fun b => if b < n then some ⟨b, 0, (match tabl b with | some l => l.length | none => 0), 1, true⟩ else none
def mem0 (n : Nat) : Mem := ⟨n, .leaf⟩
theorem mem0_get (n b : Nat) : (mem0 n).get b = .dead := by unfold Mem.get mem0; simp only [Tr.get_leaf]; rfl
/-! ### More fuel -/
def CallLe (c c' : Call) : Prop := ∀ f a m r, c f a m = some r → c' f a m = some r
theorem evCall_le {c c' : Call} (h : CallLe c c') {f : EV} {a : List EV} {m : Mem} {r : Fin} (e : evCall c f a m = some r) : evCall c' f a m = some r := by
  cases f <;> simp only [evCall, reduceCtorEq] at e ⊢
  exact h _ _ _ _ e
theorem evOps_le {c c' : Call} (h : CallLe c c') : ∀ (ops : List IOper) (fr : Fr) (m : Mem) (r : Out), evOps c ops fr m = some r → evOps c' ops fr m = some r
  | [], fr, m, r, e => e
  | o :: ops, fr, m, r, e => by
    simp only [evOps] at e ⊢
    cases hw : wantedE fr o.guard with
    | none => simp [hw] at e
    | some b =>
    cases b with
    | false => simp only [hw] at e ⊢; exact evOps_le h ops _ _ _ e
    | true =>
      simp only [hw] at e ⊢
      cases ho : o.op with
      | val op =>
        simp only [ho] at e ⊢
        cases hv : evOp fr.eval op m with
        | none => simp [hv] at e
        | some q => obtain ⟨v, m1⟩ := q; simp only [hv] at e ⊢; exact evOps_le h ops _ _ _ e
      | call f args =>
        simp only [ho] at e ⊢
        cases hv : evCall c (fr.eval f) (args.map fr.eval) m with
        | none => simp [hv] at e
        | some q =>
          rw [evCall_le h hv]
          cases q with
          | ret v m1 => simp only [hv] at e ⊢; exact evOps_le h ops _ _ _ e
          | pan v m1 => simp only [hv] at e ⊢; exact e
      | panic x => simp only [ho] at e ⊢; exact e
      | defer f args =>
        simp only [ho] at e ⊢
        split at e
        · exact evOps_le h ops _ _ _ e
        · cases e
theorem evDraw_le {c c' : Call} (h : CallLe c c') {chk : List (Nat × Nat)} {B0 : Nat} : ∀ (ops : List IOper) (i : Nat) (fr : Fr) (m : Mem) (sn : List (Nat × Mem)) (se : List Seen) (r : Out), evDraw c chk B0 ops i fr m sn se = some r → evDraw c' chk B0 ops i fr m sn se = some r
  | [], i, fr, m, sn, se, r, e => e
  | o :: ops, i, fr, m, sn, se, r, e => by
    simp only [evDraw] at e ⊢
    cases hw : wantedE fr o.guard with
    | none => simp [hw] at e
    | some b =>
    cases b with
    | false => simp only [hw] at e ⊢; exact evDraw_le h ops _ _ _ _ _ _ e
    | true =>
      simp only [hw] at e ⊢
      cases ho : o.op with
      | panic x => simp [ho] at e
      | defer f x => simp [ho] at e
      | call f args =>
        simp only [ho] at e ⊢
        cases hv : evCall c (fr.eval f) (args.map fr.eval) m with
        | none => simp [hv] at e
        | some q =>
          rw [evCall_le h hv]
          cases q with
          | pan v m1 => simp [hv] at e
          | ret v m1 =>
            simp only [hv] at e ⊢
            cases hk : checkSeen chk i m1 se <;> simp only [hk, cond_true, cond_false, reduceCtorEq] at e ⊢
            exact evDraw_le h ops _ _ _ _ _ _ e
      | val op =>
        simp only [ho] at e ⊢
        split at e
        · cases hv : evOp fr.eval op m with
          | none => simp [hv] at e
          | some q => obtain ⟨v, m1⟩ := q; simp only [hv] at e ⊢; exact evDraw_le h ops _ _ _ _ _ _ e
        · cases hv : evOp fr.eval op ⟨B0 + i, m.tbl⟩ with
          | none => simp [hv] at e
          | some q => obtain ⟨v, m1⟩ := q; simp only [hv] at e ⊢; exact evDraw_le h ops _ _ _ _ _ _ e
        · split at e
          · rename_i agg x _
            cases hl : m.load agg (fr.eval x) with
            | none => simp [hl] at e
            | some v =>
              simp only [hl] at e ⊢
              cases hf : isF (fr.eval x) <;> simp only [hf, cond_true, cond_false] at e ⊢
              · cases hk : checkSnap chk i agg (fr.eval x) v sn <;> simp only [hk, cond_true, cond_false, reduceCtorEq] at e ⊢
                exact evDraw_le h ops _ _ _ _ _ _ e
              · cases hk : checkOld chk i m.next sn <;> simp only [hk, cond_true, cond_false, reduceCtorEq] at e ⊢
                exact evDraw_le h ops _ _ _ _ _ _ e
          · cases e
        · rename_i h0 h1 h2
          cases hv : evOp fr.eval op m with
          | none => simp [hv] at e
          | some q =>
            obtain ⟨v, m1⟩ := q
            simp only [hv] at e ⊢
            cases hk : checkSeen chk i m1 se <;> simp only [hk, cond_true, cond_false, reduceCtorEq] at e ⊢
            exact evDraw_le h ops _ _ _ _ _ _ e
theorem iter_le {b b' : Fr → Mem → Option Out} (h : ∀ fr m r, b fr m = some r → b' fr m = some r) : ∀ (n n' : Nat), n ≤ n' → ∀ (fr : Fr) (m : Mem) (r : Out), iter b n fr m = some r → iter b' n' fr m = some r
  | 0, n', _, fr, m, r, e => by simp [iter] at e
  | n + 1, 0, hn, fr, m, r, e => by omega
  | n + 1, n' + 1, hn, fr, m, r, e => by
    simp only [iter] at e ⊢
    cases hb : b fr m with
    | none => simp [hb] at e
    | some o =>
      rw [h _ _ _ hb]
      simp only [hb] at e
      cases o with
      | norm fr1 m1 => exact iter_le h n n' (by omega) fr1 m1 r e
      | exit id fr1 m1 => exact e
      | ret fr1 m1 => exact e
      | pan v fr1 m1 => exact e
theorem evCode_le {c c' : Call} (h : CallLe c c') {n n' : Nat} (hn : n ≤ n') : ∀ (x : ICode) (fr : Fr) (m : Mem) (r : Out), evCode c n x fr m = some r → evCode c' n' x fr m = some r
  | .skip, fr, m, r, e => e
  | .ret, fr, m, r, e => e
  | .exit id, fr, m, r, e => e
  | .region ops, fr, m, r, e => by simp only [evCode] at e ⊢; exact evOps_le h _ _ _ _ e
  | .draw ops chk, fr, m, r, e => by simp only [evCode] at e ⊢; exact evDraw_le h _ _ _ _ _ _ _ e
  | .seq a b, fr, m, r, e => by
    simp only [evCode] at e ⊢
    cases ha : evCode c n a fr m with
    | none => simp [ha] at e
    | some o =>
      rw [evCode_le h hn a _ _ _ ha]
      simp only [ha] at e
      cases o with
      | norm fr1 m1 => exact evCode_le h hn b _ _ _ e
      | exit id fr1 m1 => exact e
      | ret fr1 m1 => exact e
      | pan v fr1 m1 => exact e
  | .cond x a b, fr, m, r, e => by
    simp only [evCode] at e ⊢
    split at e
    · rename_i t _
      cases t <;> simp only [cond_true, cond_false] at e ⊢
      · exact evCode_le h hn b _ _ _ e
      · exact evCode_le h hn a _ _ _ e
    · cases e
  | .block id a, fr, m, r, e => by
    simp only [evCode] at e ⊢
    cases ha : evCode c n a fr m with
    | none => simp [ha] at e
    | some o =>
      rw [evCode_le h hn a _ _ _ ha]
      simp only [ha] at e
      exact e
  | .loop a, fr, m, r, e => by
    simp only [evCode] at e ⊢
    exact iter_le (fun fr m r => evCode_le h hn a fr m r) n n' hn fr m r e
theorem evBody_le {c c' : Call} (h : CallLe c c') {n n' : Nat} (hn : n ≤ n') {F : IFun} {args : List EV} {m : Mem} {r : Fin} (e : evBody c n F args m = some r) : evBody c' n' F args m = some r := by
  unfold evBody at e ⊢
  cases hl : args.length.ble F.ntmps <;> simp only [hl, cond_true, cond_false, reduceCtorEq] at e ⊢
  cases hc : evCode c n F.body ⟨args0 args 0 .leaf, []⟩ m with
  | none => simp [hc] at e
  | some o =>
    rw [evCode_le h hn _ _ _ _ hc]
    simp only [hc] at e
    exact e
theorem evBodyR_le {c c' : Call} (h : CallLe c c') {n n' : Nat} (hn : n ≤ n') {d : Nat} {F : IFun} {args : List EV} {u : Option EV} {m m' : Mem} (e : evBodyR c n d F args u m = some m') : evBodyR c' n' d F args u m = some m' := by
  unfold evBodyR at e ⊢
  cases hl : args.length.ble F.ntmps <;> simp only [hl, cond_true, cond_false, reduceCtorEq] at e ⊢
  cases hc : evCode c n F.body (Fr.set ⟨args0 args 0 .leaf, []⟩ d (u.getD .niliface)) m with
  | none => simp [hc] at e
  | some o =>
    rw [evCode_le h hn _ _ _ _ hc]
    simp only [hc] at e
    exact e
theorem evLeave_le {c c' : Call} (h : CallLe c c') {n n' : Nat} (hn : n ≤ n') {rs : List IRes} {D : List (Nat × Option Nat × IFun)} {fr : Fr} : ∀ (ds : List (Nat × List EV)) (u : Option EV) (m : Mem) (r : Fin), evLeave c n rs D fr ds u m = some r → evLeave c' n' rs D fr ds u m = some r
  | [], none, m, r, e => e
  | [], some v, m, r, e => e
  | (g, args) :: ds, u, m, r, e => by
    simp only [evLeave] at e ⊢
    cases hd : dfind g D with
    | none => simp [hd] at e
    | some q =>
      obtain ⟨b, F⟩ := q
      cases b with
      | some d =>
        simp only [hd] at e ⊢
        cases hb : evBodyR c n d F args u m with
        | none => simp [hb] at e
        | some m1 =>
          rw [evBodyR_le h hn hb]
          simp only [hb] at e
          exact evLeave_le h hn ds none m1 r e
      | none =>
        simp only [hd] at e ⊢
        cases hb : evBody c n F args m with
        | none => simp [hb] at e
        | some fin =>
          rw [evBody_le h hn hb]
          simp only [hb] at e
          cases fin with
          | ret v m1 => exact evLeave_le h hn ds u m1 r e
          | pan v m1 =>
            cases u with
            | none => exact evLeave_le h hn ds (some v) m1 r e
            | some x => cases e
theorem evBodyD_le {c c' : Call} (h : CallLe c c') {n n' : Nat} (hn : n ≤ n') {F : IFun} {D : List (Nat × Option Nat × IFun)} {args : List EV} {m : Mem} {r : Fin} (e : evBodyD c n F D args m = some r) : evBodyD c' n' F D args m = some r := by
  unfold evBodyD at e ⊢
  cases hl : args.length.ble F.ntmps <;> simp only [hl, cond_true, cond_false, reduceCtorEq] at e ⊢
  cases hc : evCode c n F.body ⟨args0 args 0 .leaf, []⟩ m with
  | none => simp [hc] at e
  | some o =>
    rw [evCode_le h hn _ _ _ _ hc]
    simp only [hc] at e
    cases o with
    | norm fr m => exact evLeave_le h hn _ _ _ _ e
    | ret fr m => exact evLeave_le h hn _ _ _ _ e
    | pan v fr m => exact evLeave_le h hn _ _ _ _ e
    | exit id fr m => exact e
theorem evFun_le (T : Nat → Option Ent) : ∀ (k k' : Nat), k ≤ k' → CallLe (evFun T k) (evFun T k')
  | 0, k', _ => fun f a m r e => by simp [evFun] at e
  | k + 1, 0, h => by omega
  | k + 1, k' + 1, h => fun f a m r e => by
    simp only [evFun] at e ⊢
    cases hT : T f with
    | none => simp [hT] at e
    | some x =>
      simp only [hT] at e ⊢
      cases x with
      | go F => simp only [evEnt] at e ⊢; exact evBody_le (evFun_le T k k' (by omega)) (by omega) e
      | ext g => exact e
      | pure g => exact e
      | spec g => exact e
      | dgo F D => simp only [evEnt] at e ⊢; exact evBodyD_le (evFun_le T k k' (by omega)) (by omega) e

/-! ### Calls that keep nothing of the memory -/
mutual
/-- It names no block. -/
def Flat : EV → Bool
  | .ptr _ _ | .slice _ _ _ _ | .map _ | .fz _ _ _ | .fptr _ _ _ _ => false
  | .func _ x y => flats x && flats y
  | .iface _ v => Flat v
  | .agg x | .tuple x => flats x
  | _ => true
def flats : List EV → Bool
  | [] => true
  | v :: x => Flat v && flats x
end
mutual
theorem VR.flat {ρ ρ' : Ren} : ∀ {v : EV} {v' : Value}, VR ρ v v' → Flat v = true → VR ρ' v v'
  | _, _, .undef, _ => .undef
  | _, _, .bool b, _ => .bool b
  | _, _, .int k n, _ => .int k n
  | _, _, .str s, _ => .str s
  | _, _, .nilptr, _ => .nilptr
  | _, _, .ptr _, h => by simp [Flat] at h
  | _, _, .nilslice, _ => .nilslice
  | _, _, .slice _ _ _ _, h => by simp [Flat] at h
  | _, _, .sliceC _ _ _, h => by simp [Flat] at h
  | _, _, .sliceE, h => by simp [Flat] at h
  | _, _, .nilmap, _ => .nilmap
  | _, _, .map _, h => by simp [Flat] at h
  | _, _, .nilfunc, _ => .nilfunc
  | _, _, .func hx hy, h => by simp only [Flat, Bool.and_eq_true] at h; exact .func (VRs.flat hx h.1) (VRs.flat hy h.2)
  | _, _, .niliface, _ => .niliface
  | _, _, .iface hv, h => .iface (VR.flat hv (by simpa only [Flat] using h))
  | _, _, .agg hx hf, h => .agg (VRs.flat hx (by simpa only [Flat] using h)) hf
  | _, _, .tuple hx, h => .tuple (VRs.flat hx (by simpa only [Flat] using h))
theorem VRs.flat {ρ ρ' : Ren} : ∀ {x : List EV} {x' : List Value}, VRs ρ x x' → flats x = true → VRs ρ' x x'
  | _, _, .nil, _ => .nil
  | _, _, .cons hv hs, h => by simp only [flats, Bool.and_eq_true] at h; exact .cons (VR.flat hv h.1) (VRs.flat hs h.2)
end
theorem VR.str_any {ρ ρ' : Ren} {s : List UInt8} {v' : Value} (h : VR ρ' (.str s) v') : VR ρ (.str s) v' := by
  generalize hx : EV.str s = x at h
  cases h <;> cases hx
  exact .str _
theorem VR.of_empty {ρ ρ' : Ren} {b off : Nat} {v' : Value} (h : VR ρ' (.slice b off 0 (some 0)) v') : VR ρ (.slice b off 0 (some 0)) v' := by
  cases h with
  | sliceE => exact .sliceE
  | sliceC h' hc ho => exact .sliceE
mutual
/-- What stood for a value stands for it again, if it names what it named. -/
theorem VR.back {ρ ρ' : Ren} (e : Ext ρ ρ') : ∀ {v : EV} {u v' : Value}, VR ρ v u → VR ρ' v v' → VR ρ v v'
  | _, _, _, .undef, h => by cases h; exact .undef
  | _, _, _, .bool _, h => by cases h; exact .bool _
  | _, _, _, .int _ _, h => by cases h; exact .int _ _
  | _, _, _, .str _, h => h.str_any
  | _, _, _, .nilptr, h => by cases h; exact .nilptr
  | _, _, _, .ptr h, h2 => by cases h2 with | ptr h' => have := e _ _ h; rw [h'] at this; cases this; exact .ptr h
  | _, _, _, .nilslice, h => by cases h; exact .nilslice
  | _, _, _, .slice h _ _ _, h2 => by cases h2 with | slice h' hc ho hr => have := e _ _ h; rw [h'] at this; cases this; exact .slice h hc ho hr
  | _, _, _, .sliceC h _ _, h2 => by
    cases h2 with
    | sliceC h' hc ho => have := e _ _ h; rw [h'] at this; cases this; exact .sliceC h hc ho
    | sliceE => exact .sliceE
  | _, _, _, .sliceE, h2 => h2.of_empty
  | _, _, _, .nilmap, h => by cases h; exact .nilmap
  | _, _, _, .map h, h2 => by cases h2 with | map h' => have := e _ _ h; rw [h'] at this; cases this; exact .map h
  | _, _, _, .nilfunc, h => by cases h; exact .nilfunc
  | _, _, _, .func hx hy, h2 => by cases h2 with | func hx' hy' => exact .func (VRs.back e hx hx') (VRs.back e hy hy')
  | _, _, _, .niliface, h => by cases h; exact .niliface
  | _, _, _, .iface h, h2 => by cases h2 with | iface h' => exact .iface (VR.back e h h')
  | _, _, _, .agg h _, h2 => by cases h2 with | agg h' hf => exact .agg (VRs.back e h h') hf
  | _, _, _, .tuple h, h2 => by cases h2 with | tuple h' => exact .tuple (VRs.back e h h')
theorem VRs.back {ρ ρ' : Ren} (e : Ext ρ ρ') : ∀ {x : List EV} {u v : List Value}, VRs ρ x u → VRs ρ' x v → VRs ρ x v
  | _, _, _, .nil, h => by cases h; exact .nil
  | _, _, _, .cons h hs, h2 => by cases h2 with | cons h' hs' => exact .cons (VR.back e h h') (VRs.back e hs hs')
end
/-- A call that leaves all asx it was, and tells what names no block: what it made is forgotten. -/
def lookG (g : List EV → Mem → Option EV) : List EV → Mem → Option Fin := fun args m => (g args m).map fun v => .ret v m
/-- A table with one entry more. -/
def up (T : Nat → Option Ent) (f : Nat) (e : Ent) : Nat → Option Ent := fun g => bif g.beq f then some e else T g
end Go.Proofs.YtblcomejcahkdaaDoor.Ev
end
section
namespace Go.Proofs.YtblcomejcahkdaaDoor.Ev
open Go

open Classical in
noncomputable def lim {α : Type} (g : Nat → Option α) : Option α := if h : ∃ r, ∃ k, g k = some r then some (Classical.choose h) else none
def Mono {α : Type} (g : Nat → Option α) : Prop := ∀ k k' r, k ≤ k' → g k = some r → g k' = some r
theorem Mono.uniq {α : Type} {g : Nat → Option α} (h : Mono g) {k k' : Nat} {r r' : α} (e : g k = some r) (e' : g k' = some r') : r = r' := by
  have h1 := h k (max k k') r (Nat.le_max_left _ _) e
  have h2 := h k' (max k k') r' (Nat.le_max_right _ _) e'
  rw [h1] at h2; cases h2; rfl
theorem lim_iff {α : Type} {g : Nat → Option α} (h : Mono g) {r : α} : lim g = some r ↔ ∃ k, g k = some r := by
  unfold lim
  constructor
  · intro e
    split at e
    · rename_i hx
      cases e
      exact Classical.choose_spec hx
    · cases e
  · rintro ⟨k, hk⟩
    have hx : ∃ r, ∃ k, g k = some r := ⟨r, k, hk⟩
    rw [dif_pos hx]
    obtain ⟨k', hk'⟩ := Classical.choose_spec hx
    rw [h.uniq hk hk']
theorem opt_ext {α : Type} {a b : Option α} (h : ∀ r, a = some r ↔ b = some r) : a = b := by
  cases b with
  | some y => exact (h y).2 rfl
  | none =>
    cases a with
    | none => rfl
    | some x => exact absurd ((h x).1 rfl) (by simp)

section
variable (T : Nat → Option Ent)
noncomputable def run (f : Nat) (args : List EV) (m : Mem) : Option Fin := lim fun k => evFun T k f args m
noncomputable def exec (c : ICode) (fr : Fr) (m : Mem) : Option Out := lim fun k => evCode (evFun T k) k c fr m
noncomputable def oprs (l : List IOper) (fr : Fr) (m : Mem) : Option Out := lim fun k => evOps (evFun T k) l fr m
noncomputable def drw (chk : List (Nat × Nat)) (B0 : Nat) (l : List IOper) (i : Nat) (fr : Fr) (m : Mem) (sn : List (Nat × Mem)) (se : List Seen) : Option Out := lim fun k => evDraw (evFun T k) chk B0 l i fr m sn se
end
section
variable {T : Nat → Option Ent}
theorem mono_run {f : Nat} {args : List EV} {m : Mem} : Mono fun k => evFun T k f args m := fun k k' _ h e => evFun_le T k k' h _ _ _ _ e
theorem mono_exec {c : ICode} {fr : Fr} {m : Mem} : Mono fun k => evCode (evFun T k) k c fr m := fun k k' _ h e => evCode_le (evFun_le T k k' h) h _ _ _ _ e
theorem mono_oprs {l : List IOper} {fr : Fr} {m : Mem} : Mono fun k => evOps (evFun T k) l fr m := fun k k' _ h e => evOps_le (evFun_le T k k' h) _ _ _ _ e
theorem mono_drw {chk : List (Nat × Nat)} {B0 : Nat} {l : List IOper} {i : Nat} {fr : Fr} {m : Mem} {sn : List (Nat × Mem)} {se : List Seen} : Mono fun k => evDraw (evFun T k) chk B0 l i fr m sn se := fun k k' _ h e => evDraw_le (evFun_le T k k' h) _ _ _ _ _ _ _ e
theorem run_iff {f : Nat} {args : List EV} {m : Mem} {r : Fin} : run T f args m = some r ↔ ∃ k, evFun T k f args m = some r := lim_iff mono_run
theorem exec_iff {c : ICode} {fr : Fr} {m : Mem} {r : Out} : exec T c fr m = some r ↔ ∃ k, evCode (evFun T k) k c fr m = some r := lim_iff mono_exec
theorem oprs_iff {l : List IOper} {fr : Fr} {m : Mem} {r : Out} : oprs T l fr m = some r ↔ ∃ k, evOps (evFun T k) l fr m = some r := lim_iff mono_oprs
theorem drw_iff {chk : List (Nat × Nat)} {B0 : Nat} {l : List IOper} {i : Nat} {fr : Fr} {m : Mem} {sn : List (Nat × Mem)} {se : List Seen} {r : Out} : drw T chk B0 l i fr m sn se = some r ↔ ∃ k, evDraw (evFun T k) chk B0 l i fr m sn se = some r := lim_iff mono_drw

/-! ### Code -/
theorem exec_skip {fr : Fr} {m : Mem} : exec T .skip fr m = some (.norm fr m) := exec_iff.2 ⟨0, rfl⟩
theorem exec_ret {fr : Fr} {m : Mem} : exec T .ret fr m = some (.ret fr m) := exec_iff.2 ⟨0, rfl⟩
theorem exec_exit {id : Nat} {fr : Fr} {m : Mem} : exec T (.exit id) fr m = some (.exit id fr m) := exec_iff.2 ⟨0, rfl⟩
theorem exec_region {l : List IOper} {fr : Fr} {m : Mem} : exec T (.region l) fr m = oprs T l fr m := rfl
theorem exec_draw {l : List IOper} {chk : List (Nat × Nat)} {fr : Fr} {m : Mem} : exec T (.draw l chk) fr m = drw T chk m.next l 0 fr ⟨m.next + l.length, m.tbl⟩ [] [] := rfl
/-- What follows a piece of code that ended. -/
def thenE (o : Option Out) (k : Fr → Mem → Option Out) : Option Out := match o with
  | some (.norm fr m) => k fr m
  | o => o
theorem exec_seq {a b : ICode} {fr : Fr} {m : Mem} : exec T (.seq a b) fr m = thenE (exec T a fr m) (exec T b) := by
  refine opt_ext fun r => ?_
  rw [exec_iff]
  constructor
  · rintro ⟨k, h⟩
    simp only [evCode] at h
    cases ha : evCode (evFun T k) k a fr m with
    | none => simp [ha] at h
    | some o =>
      rw [exec_iff.2 ⟨k, ha⟩]
      simp only [ha] at h
      cases o with
      | norm fr1 m1 => exact exec_iff.2 ⟨k, h⟩
      | exit id fr1 m1 => exact h
      | ret fr1 m1 => exact h
      | pan v fr1 m1 => exact h
  · intro h
    cases ha : exec T a fr m with
    | none => simp [ha, thenE] at h
    | some o =>
      obtain ⟨k1, h1⟩ := exec_iff.1 ha
      simp only [ha, thenE] at h
      cases o with
      | norm fr1 m1 =>
        obtain ⟨k2, h2⟩ := exec_iff.1 h
        refine ⟨max k1 k2, ?_⟩
        simp only [evCode]
        have e1 := mono_exec _ _ _ (Nat.le_max_left k1 k2) h1
        have e2 := mono_exec _ _ _ (Nat.le_max_right k1 k2) h2
        simp only at e1 e2
        rw [e1]; exact e2
      | exit id fr1 m1 => refine ⟨k1, ?_⟩; simp only [evCode, h1]; exact h
      | ret fr1 m1 => refine ⟨k1, ?_⟩; simp only [evCode, h1]; exact h
      | pan v fr1 m1 => refine ⟨k1, ?_⟩; simp only [evCode, h1]; exact h
theorem exec_cond {c : Opd} {a b : ICode} {fr : Fr} {m : Mem} {t : Bool} (h : fr.eval c = .bool t) : exec T (.cond c a b) fr m = bif t then exec T a fr m else exec T b fr m := by
  refine opt_ext fun r => ?_
  rw [exec_iff]
  simp only [evCode, h]
  cases t
  · simp only [cond_false]; exact exec_iff.symm
  · simp only [cond_true]; exact exec_iff.symm
def leaveE (id : Nat) (o : Option Out) : Option Out := match o with
  | some (.exit j fr m) => bif j.beq id then some (.norm fr m) else some (.exit j fr m)
  | o => o
theorem exec_block {id : Nat} {a : ICode} {fr : Fr} {m : Mem} : exec T (.block id a) fr m = leaveE id (exec T a fr m) := by
  refine opt_ext fun r => ?_
  rw [exec_iff]
  constructor
  · rintro ⟨k, h⟩
    simp only [evCode] at h
    cases ha : evCode (evFun T k) k a fr m with
    | none => simp [ha] at h
    | some o => rw [exec_iff.2 ⟨k, ha⟩]; rw [ha] at h; exact h
  · intro h
    cases ha : exec T a fr m with
    | none => simp [ha, leaveE] at h
    | some o =>
      obtain ⟨k1, h1⟩ := exec_iff.1 ha
      rw [ha] at h
      refine ⟨k1, ?_⟩; simp only [evCode, h1]; exact h
theorem exec_loop {a : ICode} {fr : Fr} {m : Mem} : exec T (.loop a) fr m = thenE (exec T a fr m) (exec T (.loop a)) := by
  refine opt_ext fun r => ?_
  rw [exec_iff]
  constructor
  · rintro ⟨k, h⟩
    simp only [evCode] at h
    cases k with
    | zero => simp [iter] at h
    | succ k =>
      have h' : (match evCode (evFun T (k + 1)) (k + 1) a fr m with | some (.norm fr m) => iter (evCode (evFun T (k + 1)) (k + 1) a) k fr m | o => o) = some r := by
        rw [← h]; rfl
      cases ha : evCode (evFun T (k + 1)) (k + 1) a fr m with
      | none => simp [ha] at h'
      | some o =>
        rw [exec_iff.2 ⟨k + 1, ha⟩]
        simp only [ha] at h'
        cases o with
        | norm fr1 m1 =>
          refine exec_iff.2 ⟨k + 1, ?_⟩
          simp only [evCode]
          exact iter_le (fun fr m r e => e) k (k + 1) (by omega) _ _ _ h'
        | exit id fr1 m1 => exact h'
        | ret fr1 m1 => exact h'
        | pan v fr1 m1 => exact h'
  · intro h
    cases ha : exec T a fr m with
    | none => simp [ha, thenE] at h
    | some o =>
      obtain ⟨k1, h1⟩ := exec_iff.1 ha
      simp only [ha, thenE] at h
      have key : ∀ k2, (∀ r1, iter (evCode (evFun T k2) k2 a) k2 fr m = some r1 → True) → True := fun _ _ => trivial
      cases o with
      | norm fr1 m1 =>
        obtain ⟨k2, h2⟩ := exec_iff.1 h
        simp only [evCode] at h2
        refine ⟨max k1 k2 + 1, ?_⟩
        have e1 := mono_exec _ _ _ (show k1 ≤ max k1 k2 + 1 by omega) h1
        simp only at e1
        simp only [evCode, iter, e1]
        exact iter_le (fun fr m r e => evCode_le (evFun_le T k2 (max k1 k2 + 1) (by omega)) (by omega) a fr m r e) k2 (max k1 k2) (by omega) _ _ _ h2
      | exit id fr1 m1 =>
        refine ⟨k1 + 1, ?_⟩
        have e1 := mono_exec _ _ _ (show k1 ≤ k1 + 1 by omega) h1
        simp only at e1
        simp only [evCode, iter, e1]; exact h
      | ret fr1 m1 =>
        refine ⟨k1 + 1, ?_⟩
        have e1 := mono_exec _ _ _ (show k1 ≤ k1 + 1 by omega) h1
        simp only at e1
        simp only [evCode, iter, e1]; exact h
      | pan v fr1 m1 =>
        refine ⟨k1 + 1, ?_⟩
        have e1 := mono_exec _ _ _ (show k1 ≤ k1 + 1 by omega) h1
        simp only at e1
        simp only [evCode, iter, e1]; exact h

/-! ### Operations -/
theorem oprs_nil {fr : Fr} {m : Mem} : oprs T [] fr m = some (.norm fr m) := oprs_iff.2 ⟨0, rfl⟩
/-- What follows an operation that told a value. -/
def thenV (o : Option R1) (k : EV → Mem → Option Out) : Option Out := match o with
  | some (.val v m) => k v m
  | none => none
def thenC (o : Option Fin) (fr : Fr) (k : EV → Mem → Option Out) : Option Out := match o with
  | some (.ret v m) => k v m
  | some (.pan v m) => some (.pan v fr m)
  | none => none
theorem oprs_val {d : Option Nat} {op : IOp} {l : List IOper} {fr : Fr} {m : Mem} : oprs T (⟨d, .val op, none⟩ :: l) fr m = thenV (evOp fr.eval op m) fun v m => oprs T l (fr.put d v) m := by
  refine opt_ext fun r => ?_
  rw [oprs_iff]
  simp only [evOps, wantedE]
  cases h : evOp fr.eval op m with
  | none => simp [thenV]
  | some q => obtain ⟨v, m1⟩ := q; simp only [thenV]; exact oprs_iff.symm
theorem oprs_guard {d : Option Nat} {op : XOp} {t : Nat} {w : Bool} {l : List IOper} {fr : Fr} {m : Mem} {b : Bool} (h : fr.get t = .bool b) :
    oprs T (⟨d, op, some (t, w)⟩ :: l) fr m = bif b == w then oprs T (⟨d, op, none⟩ :: l) fr m else oprs T l (fr.put d .undef) m := by
  refine opt_ext fun r => ?_
  rw [oprs_iff]
  simp only [evOps, wantedE, h]
  cases hb : b == w
  · simp only [cond_false]; exact oprs_iff.symm
  · simp only [cond_true]
    rw [oprs_iff]
    simp only [evOps, wantedE]
theorem oprs_panic {d : Option Nat} {x : Opd} {l : List IOper} {fr : Fr} {m : Mem} {t : Nat} {v : EV} (h : fr.eval x = .iface t v) : oprs T (⟨d, .panic x, none⟩ :: l) fr m = some (.pan (.iface t v) fr m) := by
  refine oprs_iff.2 ⟨0, ?_⟩
  simp only [evOps, wantedE, h]

/-! ### Calls -/
def resE (F : IFun) (o : Option Out) : Option Fin := match o with
  | some (.norm fr m) | some (.ret fr m) => match fr.defers with
    | [] => (evResults fr m F.results).map fun vs => .ret (one vs) m
    | _ => none
  | some (.pan v fr m) => match fr.defers with
    | [] => some (.pan v m)
    | _ => none
  | _ => none
theorem run_go {f : Nat} {F : IFun} (hf : T f = some (.go F)) {args : List EV} {m : Mem} (hn : args.length ≤ F.ntmps) : run T f args m = resE F (exec T F.body ⟨args0 args 0 .leaf, []⟩ m) := by
  have hb : args.length.ble F.ntmps = true := Nat.ble_eq_true_of_le hn
  refine opt_ext fun r => ?_
  rw [run_iff]
  constructor
  · rintro ⟨k, h⟩
    cases k with
    | zero => simp [evFun] at h
    | succ k =>
      simp only [evFun, hf, evEnt, evBody, hb, cond_true] at h
      cases hc : evCode (evFun T k) k F.body ⟨args0 args 0 .leaf, []⟩ m with
      | none => simp [hc] at h
      | some o =>
        rw [exec_iff.2 ⟨k, hc⟩]
        simp only [hc] at h
        cases o <;> exact h
  · intro h
    cases hc : exec T F.body ⟨args0 args 0 .leaf, []⟩ m with
    | none => simp [hc, resE] at h
    | some o =>
      obtain ⟨k, hk⟩ := exec_iff.1 hc
      rw [hc] at h
      refine ⟨k + 1, ?_⟩
      simp only [evFun, hf, evEnt, evBody, hb, cond_true, hk]
      cases o <;> exact h
theorem run_spec {f : Nat} {g : List EV → Mem → Option Fin} (hf : T f = some (.spec g)) {args : List EV} {m : Mem} : run T f args m = g args m := by
  refine opt_ext fun r => ?_
  rw [run_iff]
  constructor
  · rintro ⟨k, h⟩
    cases k with
    | zero => simp [evFun] at h
    | succ k => simpa only [evFun, hf, evEnt] using h
  · intro h; exact ⟨1, by simpa only [evFun, hf, evEnt] using h⟩
theorem run_pure {f : Nat} {g : List EV → Option EV} (hf : T f = some (.pure g)) {args : List EV} {m : Mem} : run T f args m = (g args).map fun v => .ret v m := by
  refine opt_ext fun r => ?_
  rw [run_iff]
  constructor
  · rintro ⟨k, h⟩
    cases k with
    | zero => simp [evFun] at h
    | succ k => simpa only [evFun, hf, evEnt] using h
  · intro h; exact ⟨1, by simpa only [evFun, hf, evEnt] using h⟩
/-! ### Calls that wait for a function's end -/
section
variable (T)
noncomputable def bodyL (F : IFun) (args : List EV) (m : Mem) : Option Fin := lim fun k => evBody (evFun T k) k F args m
noncomputable def bodyRL (d : Nat) (F : IFun) (args : List EV) (u : Option EV) (m : Mem) : Option Mem := lim fun k => evBodyR (evFun T k) k d F args u m
noncomputable def leaveL (rs : List IRes) (D : List (Nat × Option Nat × IFun)) (fr : Fr) (ds : List (Nat × List EV)) (u : Option EV) (m : Mem) : Option Fin := lim fun k => evLeave (evFun T k) k rs D fr ds u m
end
theorem mono_bodyL {F : IFun} {args : List EV} {m : Mem} : Mono fun k => evBody (evFun T k) k F args m := fun k k' _ h e => evBody_le (evFun_le T k k' h) h e
theorem mono_bodyRL {d : Nat} {F : IFun} {args : List EV} {u : Option EV} {m : Mem} : Mono fun k => evBodyR (evFun T k) k d F args u m := fun k k' _ h e => evBodyR_le (evFun_le T k k' h) h e
theorem mono_leaveL {rs : List IRes} {D : List (Nat × Option Nat × IFun)} {fr : Fr} {ds : List (Nat × List EV)} {u : Option EV} {m : Mem} : Mono fun k => evLeave (evFun T k) k rs D fr ds u m := fun k k' _ h e => evLeave_le (evFun_le T k k' h) h _ _ _ _ e
theorem bodyL_iff {F : IFun} {args : List EV} {m : Mem} {r : Fin} : bodyL T F args m = some r ↔ ∃ k, evBody (evFun T k) k F args m = some r := lim_iff mono_bodyL
theorem bodyRL_iff {d : Nat} {F : IFun} {args : List EV} {u : Option EV} {m : Mem} {r : Mem} : bodyRL T d F args u m = some r ↔ ∃ k, evBodyR (evFun T k) k d F args u m = some r := lim_iff mono_bodyRL
theorem leaveL_iff {rs : List IRes} {D : List (Nat × Option Nat × IFun)} {fr : Fr} {ds : List (Nat × List EV)} {u : Option EV} {m : Mem} {r : Fin} : leaveL T rs D fr ds u m = some r ↔ ∃ k, evLeave (evFun T k) k rs D fr ds u m = some r := lim_iff mono_leaveL
theorem bodyL_eq {F : IFun} {args : List EV} {m : Mem} (hn : args.length ≤ F.ntmps) : bodyL T F args m = resE F (exec T F.body ⟨args0 args 0 .leaf, []⟩ m) := by
  have hb : args.length.ble F.ntmps = true := Nat.ble_eq_true_of_le hn
  refine opt_ext fun r => ?_
  rw [bodyL_iff]
  constructor
  · rintro ⟨k, h⟩
    simp only [evBody, hb, cond_true] at h
    cases hc : evCode (evFun T k) k F.body ⟨args0 args 0 .leaf, []⟩ m with
    | none => simp [hc] at h
    | some o =>
      rw [exec_iff.2 ⟨k, hc⟩]
      simp only [hc] at h
      cases o <;> exact h
  · intro h
    cases hc : exec T F.body ⟨args0 args 0 .leaf, []⟩ m with
    | none => simp [hc, resE] at h
    | some o =>
      obtain ⟨k, hk⟩ := exec_iff.1 hc
      rw [hc] at h
      refine ⟨k, ?_⟩
      simp only [evBody, hb, cond_true, hk]
      cases o <;> exact h
/-- What is left behind a deferred function that asked for the panic. -/
def resM (rs : List IRes) (o : Option Out) : Option Mem := match o with
  | some (.norm fr m) => match fr.defers with
    | [] => (evResults fr m rs).map fun _ => m
    | _ => none
  | some (.ret fr m) => match fr.defers with
    | [] => (evResults fr m rs).map fun _ => m
    | _ => none
  | _ => none
theorem bodyRL_eq {d : Nat} {F : IFun} {args : List EV} {u : Option EV} {m : Mem} (hn : args.length ≤ F.ntmps) : bodyRL T d F args u m = resM F.results (exec T F.body (Fr.set ⟨args0 args 0 .leaf, []⟩ d (u.getD .niliface)) m) := by
  have hb : args.length.ble F.ntmps = true := Nat.ble_eq_true_of_le hn
  refine opt_ext fun r => ?_
  rw [bodyRL_iff]
  constructor
  · rintro ⟨k, h⟩
    simp only [evBodyR, hb, cond_true] at h
    cases hc : evCode (evFun T k) k F.body (Fr.set ⟨args0 args 0 .leaf, []⟩ d (u.getD .niliface)) m with
    | none => simp [hc] at h
    | some o =>
      rw [exec_iff.2 ⟨k, hc⟩]
      simp only [hc] at h
      cases o <;> exact h
  · intro h
    cases hc : exec T F.body (Fr.set ⟨args0 args 0 .leaf, []⟩ d (u.getD .niliface)) m with
    | none => simp [hc, resM] at h
    | some o =>
      obtain ⟨k, hk⟩ := exec_iff.1 hc
      rw [hc] at h
      refine ⟨k, ?_⟩
      simp only [evBodyR, hb, cond_true, hk]
      cases o <;> exact h
theorem leaveL_nil {rs : List IRes} {D : List (Nat × Option Nat × IFun)} {fr : Fr} {m : Mem} : leaveL T rs D fr [] none m = (evResults fr m rs).map fun vs => .ret (one vs) m := by
  refine opt_ext fun r => ?_
  rw [leaveL_iff]
  simp only [evLeave, exists_const]
theorem leaveL_pan {rs : List IRes} {D : List (Nat × Option Nat × IFun)} {fr : Fr} {v : EV} {m : Mem} : leaveL T rs D fr [] (some v) m = some (.pan v m) := by
  refine opt_ext fun r => ?_
  rw [leaveL_iff]
  simp only [evLeave, exists_const]
theorem leaveL_rec {rs : List IRes} {D : List (Nat × Option Nat × IFun)} {fr : Fr} {g d : Nat} {F : IFun} {args : List EV} {ds : List (Nat × List EV)} {u : Option EV} {m : Mem} (hd : dfind g D = some (some d, F)) :
    leaveL T rs D fr ((g, args) :: ds) u m = (bodyRL T d F args u m).bind fun m => leaveL T rs D fr ds none m := by
  refine opt_ext fun r => ?_
  rw [leaveL_iff]
  simp only [evLeave, hd]
  constructor
  · rintro ⟨k, h⟩
    cases hb : evBodyR (evFun T k) k d F args u m with
    | none => simp [hb] at h
    | some m1 =>
      simp only [hb] at h
      rw [bodyRL_iff.2 ⟨k, hb⟩]
      exact leaveL_iff.2 ⟨k, h⟩
  · intro h
    obtain ⟨m1, h1, h2⟩ := Option.bind_eq_some_iff.1 h
    obtain ⟨k1, e1⟩ := bodyRL_iff.1 h1
    obtain ⟨k2, e2⟩ := leaveL_iff.1 h2
    refine ⟨max k1 k2, ?_⟩
    have g1 := mono_bodyRL _ _ _ (Nat.le_max_left k1 k2) e1
    have g2 := mono_leaveL _ _ _ (Nat.le_max_right k1 k2) e2
    simp only at g1 g2
    simp only [g1]; exact g2
/-- Behind a deferred function that ended. -/
def leaveF (u : Option EV) (k : Option EV → Mem → Option Fin) : Option Fin → Option Fin
  | some (.ret _ m) => k u m
  | some (.pan v m) => match u with
    | none => k (some v) m
    | some _ => none
  | none => none
theorem leaveL_call {rs : List IRes} {D : List (Nat × Option Nat × IFun)} {fr : Fr} {g : Nat} {F : IFun} {args : List EV} {ds : List (Nat × List EV)} {u : Option EV} {m : Mem} (hd : dfind g D = some (none, F)) :
    leaveL T rs D fr ((g, args) :: ds) u m = leaveF u (fun u m => leaveL T rs D fr ds u m) (bodyL T F args m) := by
  refine opt_ext fun r => ?_
  rw [leaveL_iff]
  simp only [evLeave, hd]
  constructor
  · rintro ⟨k, h⟩
    cases hb : evBody (evFun T k) k F args m with
    | none => simp [hb] at h
    | some fin =>
      simp only [hb] at h
      rw [bodyL_iff.2 ⟨k, hb⟩]
      cases fin with
      | ret v m1 => exact leaveL_iff.2 ⟨k, h⟩
      | pan v m1 =>
        cases u with
        | none => exact leaveL_iff.2 ⟨k, h⟩
        | some x => cases h
  · intro h
    cases hb : bodyL T F args m with
    | none => simp [hb, leaveF] at h
    | some fin =>
      obtain ⟨k1, e1⟩ := bodyL_iff.1 hb
      rw [hb] at h
      have fin2 : ∀ {u2 : Option EV} {m2 : Mem}, leaveL T rs D fr ds u2 m2 = some r → ∃ k2, k1 ≤ k2 ∧ evLeave (evFun T k2) k2 rs D fr ds u2 m2 = some r := fun e => by
        obtain ⟨k2, e2⟩ := leaveL_iff.1 e
        exact ⟨max k1 k2, Nat.le_max_left _ _, mono_leaveL _ _ _ (Nat.le_max_right k1 k2) e2⟩
      cases fin with
      | ret v m1 =>
        obtain ⟨k2, hk, e2⟩ := fin2 h
        have g1 := mono_bodyL _ _ _ hk e1
        simp only at g1
        exact ⟨k2, by simp only [g1]; exact e2⟩
      | pan v m1 =>
        cases u with
        | none =>
          obtain ⟨k2, hk, e2⟩ := fin2 h
          have g1 := mono_bodyL _ _ _ hk e1
          simp only at g1
          exact ⟨k2, by simp only [g1]; exact e2⟩
        | some x => cases h
/-- A function's end, where calls wait. -/
noncomputable def resD (T : Nat → Option Ent) (rs : List IRes) (D : List (Nat × Option Nat × IFun)) (o : Option Out) : Option Fin := match o with
  | some (.norm fr m) => leaveL T rs D fr fr.defers none m
  | some (.ret fr m) => leaveL T rs D fr fr.defers none m
  | some (.pan v fr m) => leaveL T rs D fr fr.defers (some v) m
  | _ => none
theorem run_dgo {f : Nat} {F : IFun} {D : List (Nat × Option Nat × IFun)} (hf : T f = some (.dgo F D)) {args : List EV} {m : Mem} (hn : args.length ≤ F.ntmps) : run T f args m = resD T F.results D (exec T F.body ⟨args0 args 0 .leaf, []⟩ m) := by
  have hb : args.length.ble F.ntmps = true := Nat.ble_eq_true_of_le hn
  refine opt_ext fun r => ?_
  rw [run_iff]
  constructor
  · rintro ⟨k, h⟩
    cases k with
    | zero => simp [evFun] at h
    | succ k =>
      simp only [evFun, hf, evEnt, evBodyD, hb, cond_true] at h
      cases hc : evCode (evFun T k) k F.body ⟨args0 args 0 .leaf, []⟩ m with
      | none => simp [hc] at h
      | some o =>
        rw [exec_iff.2 ⟨k, hc⟩]
        simp only [hc] at h
        cases o with
        | norm fr m1 => exact leaveL_iff.2 ⟨k, h⟩
        | ret fr m1 => exact leaveL_iff.2 ⟨k, h⟩
        | pan v fr m1 => exact leaveL_iff.2 ⟨k, h⟩
        | exit id fr m1 => cases h
  · intro h
    cases hc : exec T F.body ⟨args0 args 0 .leaf, []⟩ m with
    | none => simp [hc, resD] at h
    | some o =>
      obtain ⟨k1, e1⟩ := exec_iff.1 hc
      rw [hc] at h
      have fin2 : ∀ {fr : Fr} {ds : List (Nat × List EV)} {u2 : Option EV} {m2 : Mem}, leaveL T F.results D fr ds u2 m2 = some r → ∃ k2, k1 ≤ k2 ∧ evLeave (evFun T k2) k2 F.results D fr ds u2 m2 = some r := fun e => by
        obtain ⟨k2, e2⟩ := leaveL_iff.1 e
        exact ⟨max k1 k2, Nat.le_max_left _ _, mono_leaveL _ _ _ (Nat.le_max_right k1 k2) e2⟩
      cases o with
      | exit id fr m1 => cases h
      | norm fr m1 =>
        obtain ⟨k2, hk, e2⟩ := fin2 h
        have g1 := mono_exec _ _ _ hk e1
        simp only at g1
        exact ⟨k2 + 1, by simp only [evFun, hf, evEnt, evBodyD, hb, cond_true, g1]; exact e2⟩
      | ret fr m1 =>
        obtain ⟨k2, hk, e2⟩ := fin2 h
        have g1 := mono_exec _ _ _ hk e1
        simp only at g1
        exact ⟨k2 + 1, by simp only [evFun, hf, evEnt, evBodyD, hb, cond_true, g1]; exact e2⟩
      | pan v fr m1 =>
        obtain ⟨k2, hk, e2⟩ := fin2 h
        have g1 := mono_exec _ _ _ hk e1
        simp only at g1
        exact ⟨k2 + 1, by simp only [evFun, hf, evEnt, evBodyD, hb, cond_true, g1]; exact e2⟩
end
end Go.Proofs.YtblcomejcahkdaaDoor.Ev
end
