/- The evaluator's code of the given functions, printed by program (EvPut); part 0. -/
import Derived.KernelRfl
import Derived.Test.YtpdpjimopfadfaaChecked
import Derived.Test.YtpdpjimopfadfaaEvCode
namespace Go.Proofs.Ytpdpjimopfadfaa.Ev
open Go
def G : List Nat := []

/- balustrade/balustradelaw01.ArithBack -/
def F3 : IFun :=
 ⟨190,
 (.seq
  (.region [⟨(some 4), (.val (.mov (.const (.bool false)))), none⟩])
  (.seq
   (.seq
    (.region [⟨(some 19), (.call (.const (.func 6 [] [])) []), none⟩,
      ⟨(some 20), (.val (.un .not (.tmp 19))), none⟩])
    (.cond (.tmp 20)
     (.seq
      (.region [⟨(some 4), (.val (.mov (.const (.bool false)))), none⟩])
      .ret)
     .skip))
   (.seq
    (.region [⟨(some 22), (.val (.mov (.tmp 0))), none⟩,
      ⟨(some 23), (.val (.mov (.tmp 1))), none⟩,
      ⟨(some 24), (.call (.const (.func 7 [] [])) [(.tmp 22), (.tmp 23)]), none⟩,
      ⟨(some 21), (.val (.mov (.tmp 24))), none⟩,
      ⟨(some 25), (.val (.extract (.tmp 21) 0)), none⟩,
      ⟨(some 26), (.val (.extract (.tmp 21) 1)), none⟩,
      ⟨(some 5), (.val (.mov (.tmp 25))), none⟩,
      ⟨(some 6), (.val (.mov (.tmp 26))), none⟩])
    (.seq
     (.seq
      (.region [⟨(some 27), (.val (.mov (.tmp 6))), none⟩])
      (.cond (.tmp 27)
       (.seq
        (.region [⟨(some 29), (.val (.mov (.tmp 5))), none⟩,
          ⟨(some 30), (.val (.mov (.tmp 1))), none⟩,
          ⟨(some 31), (.call (.const (.func 8 [] [])) [(.tmp 29), (.tmp 30)]), none⟩,
          ⟨(some 28), (.val (.mov (.tmp 31))), none⟩,
          ⟨(some 32), (.val (.extract (.tmp 28) 0)), none⟩,
          ⟨(some 33), (.val (.extract (.tmp 28) 1)), none⟩,
          ⟨(some 7), (.val (.mov (.tmp 32))), none⟩,
          ⟨(some 8), (.val (.mov (.tmp 33))), none⟩])
        (.seq
         (.region [⟨(some 34), (.val (.mov (.tmp 5))), none⟩,
           ⟨(some 35), (.val (.mov (.tmp 0))), none⟩,
           ⟨(some 36), (.val (.mov (.tmp 1))), none⟩,
           ⟨(some 37), (.val (.bin .add (.tmp 35) (.tmp 36))), none⟩,
           ⟨(some 38), (.val (.eq true (.prim 1) (.tmp 34) (.tmp 37))), none⟩,
           ⟨(some 39), (.val (.mov (.tmp 38))), none⟩,
           ⟨(some 40), (.val (.mov (.tmp 8))), (some (39, false))⟩,
           ⟨(some 41), (.val (.un .not (.tmp 40))), (some (39, false))⟩,
           ⟨(some 42), (.val (.pick (.tmp 39) (.const (.bool true)) (.tmp 41))), none⟩,
           ⟨(some 43), (.val (.mov (.tmp 42))), none⟩,
           ⟨(some 44), (.val (.mov (.tmp 7))), (some (43, false))⟩,
           ⟨(some 45), (.val (.mov (.tmp 0))), (some (43, false))⟩,
           ⟨(some 46), (.val (.eq true (.prim 1) (.tmp 44) (.tmp 45))), (some (43, false))⟩,
           ⟨(some 47), (.val (.pick (.tmp 43) (.const (.bool true)) (.tmp 46))), none⟩])
         (.cond (.tmp 47)
          (.seq
           (.region [⟨(some 4), (.val (.mov (.const (.bool false)))), none⟩])
           .ret)
          .skip)))
       .skip))
     (.seq
      (.region [⟨(some 49), (.val (.mov (.tmp 0))), none⟩,
        ⟨(some 50), (.val (.mov (.tmp 1))), none⟩,
        ⟨(some 51), (.call (.const (.func 9 [] [])) [(.tmp 49), (.tmp 50)]), none⟩,
        ⟨(some 48), (.val (.mov (.tmp 51))), none⟩,
        ⟨(some 52), (.val (.extract (.tmp 48) 0)), none⟩,
        ⟨(some 53), (.val (.extract (.tmp 48) 1)), none⟩,
        ⟨(some 9), (.val (.mov (.tmp 52))), none⟩,
        ⟨(some 10), (.val (.mov (.tmp 53))), none⟩])
      (.seq
       (.seq
        (.region [⟨(some 54), (.val (.mov (.tmp 10))), none⟩,
          ⟨(some 55), (.val (.mov (.tmp 54))), none⟩,
          ⟨(some 56), (.val (.mov (.tmp 9))), (some (55, true))⟩,
          ⟨(some 57), (.val (.mov (.tmp 0))), (some (55, true))⟩,
          ⟨(some 58), (.val (.mov (.tmp 1))), (some (55, true))⟩,
          ⟨(some 59), (.val (.bin .mul (.tmp 57) (.tmp 58))), (some (55, true))⟩,
          ⟨(some 60), (.val (.eq true (.prim 1) (.tmp 56) (.tmp 59))), (some (55, true))⟩,
          ⟨(some 61), (.val (.mov (.tmp 60))), (some (55, true))⟩,
          ⟨(some 62), (.val (.mov (.tmp 0))), (some (61, false))⟩,
          ⟨(some 63), (.val (.eq true (.prim 1) (.tmp 62) (.const (.int .i64 0)))), (some (61, false))⟩,
          ⟨(some 64), (.val (.mov (.tmp 63))), (some (61, false))⟩,
          ⟨(some 65), (.val (.mov (.tmp 9))), (some (64, true))⟩,
          ⟨(some 66), (.val (.mov (.tmp 0))), (some (64, true))⟩,
          ⟨(some 67), (.val (.bin .quo (.tmp 65) (.tmp 66))), (some (64, true))⟩,
          ⟨(some 68), (.val (.mov (.tmp 1))), (some (64, true))⟩,
          ⟨(some 69), (.val (.eq true (.prim 1) (.tmp 67) (.tmp 68))), (some (64, true))⟩,
          ⟨(some 70), (.val (.pick (.tmp 64) (.tmp 69) (.const (.bool false)))), (some (61, false))⟩,
          ⟨(some 71), (.val (.mov (.tmp 70))), (some (61, false))⟩,
          ⟨(some 72), (.val (.mov (.tmp 0))), (some (71, true))⟩,
          ⟨(some 73), (.val (.eq false (.prim 1) (.tmp 72) (.const (.int .i64 (-1))))), (some (71, true))⟩,
          ⟨(some 74), (.val (.mov (.tmp 73))), (some (71, true))⟩,
          ⟨(some 75), (.val (.mov (.tmp 9))), (some (74, true))⟩,
          ⟨(some 76), (.val (.eq false (.prim 1) (.tmp 75) (.const (.int .i64 (-9223372036854775808))))), (some (74, true))⟩,
          ⟨(some 77), (.val (.pick (.tmp 74) (.tmp 76) (.const (.bool false)))), (some (71, true))⟩,
          ⟨(some 78), (.val (.un .not (.tmp 77))), (some (71, true))⟩,
          ⟨(some 79), (.val (.pick (.tmp 71) (.tmp 78) (.const (.bool false)))), (some (61, false))⟩,
          ⟨(some 80), (.val (.pick (.tmp 61) (.const (.bool true)) (.tmp 79))), (some (55, true))⟩,
          ⟨(some 81), (.val (.pick (.tmp 55) (.tmp 80) (.const (.bool false)))), none⟩])
        (.cond (.tmp 81)
         (.seq
          (.region [⟨(some 4), (.val (.mov (.const (.bool false)))), none⟩])
          .ret)
         .skip))
       (.seq
        (.region [⟨(some 83), (.val (.mov (.tmp 0))), none⟩,
          ⟨(some 84), (.val (.mov (.tmp 1))), none⟩,
          ⟨(some 85), (.call (.const (.func 10 [] [])) [(.tmp 83), (.tmp 84)]), none⟩,
          ⟨(some 82), (.val (.mov (.tmp 85))), none⟩,
          ⟨(some 86), (.val (.extract (.tmp 82) 0)), none⟩,
          ⟨(some 87), (.val (.extract (.tmp 82) 1)), none⟩,
          ⟨(some 11), (.val (.mov (.tmp 86))), none⟩,
          ⟨(some 12), (.val (.mov (.tmp 87))), none⟩])
        (.seq
         (.region [⟨(some 89), (.val (.mov (.tmp 0))), none⟩,
           ⟨(some 90), (.val (.mov (.tmp 1))), none⟩,
           ⟨(some 91), (.call (.const (.func 11 [] [])) [(.tmp 89), (.tmp 90)]), none⟩,
           ⟨(some 88), (.val (.mov (.tmp 91))), none⟩,
           ⟨(some 92), (.val (.extract (.tmp 88) 0)), none⟩,
           ⟨(some 93), (.val (.extract (.tmp 88) 1)), none⟩,
           ⟨(some 13), (.val (.mov (.tmp 92))), none⟩,
           ⟨(some 14), (.val (.mov (.tmp 93))), none⟩])
         (.seq
          (.seq
           (.region [⟨(some 94), (.val (.mov (.tmp 12))), none⟩,
             ⟨(some 95), (.val (.mov (.tmp 14))), none⟩,
             ⟨(some 96), (.val (.eq true (.prim 0) (.tmp 94) (.tmp 95))), none⟩,
             ⟨(some 97), (.val (.mov (.tmp 96))), none⟩,
             ⟨(some 98), (.val (.mov (.tmp 12))), (some (97, false))⟩,
             ⟨(some 99), (.val (.un .not (.tmp 98))), (some (97, false))⟩,
             ⟨(some 100), (.val (.pick (.tmp 97) (.const (.bool true)) (.tmp 99))), none⟩])
           (.cond (.tmp 100)
            (.seq
             (.region [⟨(some 101), (.val (.mov (.tmp 12))), none⟩,
               ⟨(some 102), (.val (.mov (.tmp 14))), none⟩,
               ⟨(some 103), (.val (.eq false (.prim 0) (.tmp 101) (.tmp 102))), none⟩,
               ⟨(some 104), (.val (.mov (.tmp 103))), none⟩,
               ⟨(some 105), (.val (.mov (.tmp 11))), (some (104, true))⟩,
               ⟨(some 106), (.val (.eq false (.prim 1) (.tmp 105) (.const (.int .i64 0)))), (some (104, true))⟩,
               ⟨(some 107), (.val (.pick (.tmp 104) (.tmp 106) (.const (.bool false)))), none⟩,
               ⟨(some 108), (.val (.mov (.tmp 107))), none⟩,
               ⟨(some 109), (.val (.mov (.tmp 13))), (some (108, true))⟩,
               ⟨(some 110), (.val (.eq false (.prim 1) (.tmp 109) (.const (.int .i64 0)))), (some (108, true))⟩,
               ⟨(some 111), (.val (.pick (.tmp 108) (.tmp 110) (.const (.bool false)))), none⟩,
               ⟨(some 112), (.val (.mov (.tmp 111))), none⟩,
               ⟨(some 113), (.val (.mov (.tmp 1))), (some (112, true))⟩,
               ⟨(some 114), (.val (.eq false (.prim 1) (.tmp 113) (.const (.int .i64 0)))), (some (112, true))⟩,
               ⟨(some 115), (.val (.mov (.tmp 114))), (some (112, true))⟩,
               ⟨(some 116), (.val (.mov (.tmp 1))), (some (115, false))⟩,
               ⟨(some 117), (.val (.eq false (.prim 1) (.tmp 116) (.const (.int .i64 (-1))))), (some (115, false))⟩,
               ⟨(some 118), (.val (.mov (.tmp 117))), (some (115, false))⟩,
               ⟨(some 119), (.val (.mov (.tmp 0))), (some (118, true))⟩,
               ⟨(some 120), (.val (.eq false (.prim 1) (.tmp 119) (.const (.int .i64 (-9223372036854775808))))), (some (118, true))⟩,
               ⟨(some 121), (.val (.pick (.tmp 118) (.tmp 120) (.const (.bool false)))), (some (115, false))⟩,
               ⟨(some 122), (.val (.pick (.tmp 115) (.const (.bool true)) (.tmp 121))), (some (112, true))⟩,
               ⟨(some 123), (.val (.pick (.tmp 112) (.tmp 122) (.const (.bool false)))), none⟩,
               ⟨(some 4), (.val (.mov (.tmp 123))), none⟩])
             .ret)
            .skip))
          (.seq
           (.region [⟨(some 125), (.val (.mov (.tmp 1))), none⟩,
             ⟨(some 126), (.val (.mov (.tmp 11))), none⟩,
             ⟨(some 127), (.call (.const (.func 9 [] [])) [(.tmp 125), (.tmp 126)]), none⟩,
             ⟨(some 124), (.val (.mov (.tmp 127))), none⟩,
             ⟨(some 128), (.val (.extract (.tmp 124) 0)), none⟩,
             ⟨(some 129), (.val (.extract (.tmp 124) 1)), none⟩,
             ⟨(some 15), (.val (.mov (.tmp 128))), none⟩,
             ⟨(some 16), (.val (.mov (.tmp 129))), none⟩])
           (.seq
            (.region [⟨(some 131), (.val (.mov (.tmp 15))), none⟩,
              ⟨(some 132), (.val (.mov (.tmp 13))), none⟩,
              ⟨(some 133), (.call (.const (.func 7 [] [])) [(.tmp 131), (.tmp 132)]), none⟩,
              ⟨(some 130), (.val (.mov (.tmp 133))), none⟩,
              ⟨(some 134), (.val (.extract (.tmp 130) 0)), none⟩,
              ⟨(some 135), (.val (.extract (.tmp 130) 1)), none⟩,
              ⟨(some 17), (.val (.mov (.tmp 134))), none⟩,
              ⟨(some 18), (.val (.mov (.tmp 135))), none⟩])
            (.seq
             (.region [⟨(some 136), (.val (.mov (.tmp 16))), none⟩,
               ⟨(some 137), (.val (.mov (.tmp 136))), none⟩,
               ⟨(some 138), (.val (.mov (.tmp 18))), (some (137, true))⟩,
               ⟨(some 139), (.val (.pick (.tmp 137) (.tmp 138) (.const (.bool false)))), none⟩,
               ⟨(some 140), (.val (.mov (.tmp 139))), none⟩,
               ⟨(some 141), (.val (.mov (.tmp 17))), (some (140, true))⟩,
               ⟨(some 142), (.val (.mov (.tmp 0))), (some (140, true))⟩,
               ⟨(some 143), (.val (.eq false (.prim 1) (.tmp 141) (.tmp 142))), (some (140, true))⟩,
               ⟨(some 144), (.val (.pick (.tmp 140) (.tmp 143) (.const (.bool false)))), none⟩,
               ⟨(some 145), (.val (.mov (.tmp 144))), none⟩,
               ⟨(some 146), (.val (.mov (.tmp 13))), (some (145, true))⟩,
               ⟨(some 147), (.val (.eq false (.prim 1) (.tmp 146) (.const (.int .i64 0)))), (some (145, true))⟩,
               ⟨(some 148), (.val (.mov (.tmp 147))), (some (145, true))⟩,
               ⟨(some 149), (.val (.mov (.tmp 13))), (some (148, false))⟩,
               ⟨(some 150), (.val (.bin .lss (.tmp 149) (.const (.int .i64 0)))), (some (148, false))⟩,
               ⟨(some 151), (.val (.mov (.tmp 0))), (some (148, false))⟩,
               ⟨(some 152), (.val (.bin .lss (.tmp 151) (.const (.int .i64 0)))), (some (148, false))⟩,
               ⟨(some 153), (.val (.eq false (.prim 0) (.tmp 150) (.tmp 152))), (some (148, false))⟩,
               ⟨(some 154), (.val (.pick (.tmp 148) (.const (.bool true)) (.tmp 153))), (some (145, true))⟩,
               ⟨(some 155), (.val (.pick (.tmp 145) (.tmp 154) (.const (.bool false)))), none⟩,
               ⟨(some 156), (.val (.mov (.tmp 155))), none⟩,
               ⟨(some 157), (.val (.mov (.tmp 1))), (some (156, true))⟩,
               ⟨(some 158), (.val (.bin .gtr (.tmp 157) (.const (.int .i64 0)))), (some (156, true))⟩,
               ⟨(some 159), (.val (.mov (.tmp 158))), (some (156, true))⟩,
               ⟨(some 160), (.val (.mov (.tmp 13))), (some (159, true))⟩,
               ⟨(some 161), (.val (.mov (.tmp 1))), (some (159, true))⟩,
               ⟨(some 162), (.val (.bin .lss (.tmp 160) (.tmp 161))), (some (159, true))⟩,
               ⟨(some 163), (.val (.pick (.tmp 159) (.tmp 162) (.const (.bool false)))), (some (156, true))⟩,
               ⟨(some 164), (.val (.mov (.tmp 163))), (some (156, true))⟩,
               ⟨(some 165), (.val (.mov (.tmp 13))), (some (164, true))⟩,
               ⟨(some 166), (.val (.mov (.tmp 1))), (some (164, true))⟩,
               ⟨(some 167), (.val (.un .neg (.tmp 166))), (some (164, true))⟩,
               ⟨(some 168), (.val (.bin .gtr (.tmp 165) (.tmp 167))), (some (164, true))⟩,
               ⟨(some 169), (.val (.pick (.tmp 164) (.tmp 168) (.const (.bool false)))), (some (156, true))⟩,
               ⟨(some 170), (.val (.mov (.tmp 169))), (some (156, true))⟩,
               ⟨(some 171), (.val (.mov (.tmp 1))), (some (170, false))⟩,
               ⟨(some 172), (.val (.bin .lss (.tmp 171) (.const (.int .i64 0)))), (some (170, false))⟩,
               ⟨(some 173), (.val (.mov (.tmp 172))), (some (170, false))⟩,
               ⟨(some 174), (.val (.mov (.tmp 13))), (some (173, true))⟩,
               ⟨(some 175), (.val (.mov (.tmp 1))), (some (173, true))⟩,
               ⟨(some 176), (.val (.bin .gtr (.tmp 174) (.tmp 175))), (some (173, true))⟩,
               ⟨(some 177), (.val (.pick (.tmp 173) (.tmp 176) (.const (.bool false)))), (some (170, false))⟩,
               ⟨(some 178), (.val (.mov (.tmp 177))), (some (170, false))⟩,
               ⟨(some 179), (.val (.mov (.tmp 1))), (some (178, true))⟩,
               ⟨(some 180), (.val (.eq false (.prim 1) (.tmp 179) (.const (.int .i64 (-9223372036854775808))))), (some (178, true))⟩,
               ⟨(some 181), (.val (.mov (.tmp 180))), (some (178, true))⟩,
               ⟨(some 182), (.val (.mov (.tmp 13))), (some (181, false))⟩,
               ⟨(some 183), (.val (.mov (.tmp 1))), (some (181, false))⟩,
               ⟨(some 184), (.val (.un .neg (.tmp 183))), (some (181, false))⟩,
               ⟨(some 185), (.val (.bin .lss (.tmp 182) (.tmp 184))), (some (181, false))⟩,
               ⟨(some 186), (.val (.pick (.tmp 181) (.const (.bool true)) (.tmp 185))), (some (178, true))⟩,
               ⟨(some 187), (.val (.pick (.tmp 178) (.tmp 186) (.const (.bool false)))), (some (170, false))⟩,
               ⟨(some 188), (.val (.pick (.tmp 170) (.const (.bool true)) (.tmp 187))), (some (156, true))⟩,
               ⟨(some 189), (.val (.pick (.tmp 156) (.tmp 188) (.const (.bool false)))), none⟩,
               ⟨(some 4), (.val (.mov (.tmp 189))), none⟩])
             .ret)))))))))))),
 [.tmp 4]⟩
theorem ok3 : cFun Try.prog G Try.f3 = some F3 := by kernel_rfl

/- balustrade/balustradelaw01.ArithSums -/
def F4 : IFun :=
 ⟨32,
 (.seq
  (.region [⟨(some 2), (.val (.mov (.const (.bool false)))), none⟩])
  (.seq
   (.seq
    (.region [⟨(some 7), (.val (.mov (.tmp 0))), none⟩,
      ⟨(some 8), (.val (.len (.tmp 7))), none⟩,
      ⟨(some 9), (.val (.bin .gtr (.tmp 8) (.const (.int .i64 1000)))), none⟩])
    (.cond (.tmp 9)
     (.seq
      (.region [⟨(some 10), (.call (.const (.func 6 [] [])) []), none⟩,
        ⟨(some 2), (.val (.mov (.tmp 10))), none⟩])
      .ret)
     .skip))
   (.seq
    (.region [⟨(some 12), (.val (.mov (.tmp 0))), none⟩,
      ⟨(some 13), (.call (.const (.func 12 [] [])) [(.tmp 12)]), none⟩,
      ⟨(some 11), (.val (.mov (.tmp 13))), none⟩,
      ⟨(some 14), (.val (.extract (.tmp 11) 0)), none⟩,
      ⟨(some 15), (.val (.extract (.tmp 11) 1)), none⟩,
      ⟨(some 3), (.val (.mov (.tmp 14))), none⟩,
      ⟨(some 4), (.val (.mov (.tmp 15))), none⟩])
    (.seq
     (.region [⟨(some 17), (.val (.mov (.tmp 0))), none⟩,
       ⟨(some 18), (.call (.const (.func 13 [] [])) [(.tmp 17)]), none⟩,
       ⟨(some 16), (.val (.mov (.tmp 18))), none⟩,
       ⟨(some 19), (.val (.extract (.tmp 16) 0)), none⟩,
       ⟨(some 20), (.val (.extract (.tmp 16) 1)), none⟩,
       ⟨(some 5), (.val (.mov (.tmp 19))), none⟩,
       ⟨(some 6), (.val (.mov (.tmp 20))), none⟩])
     (.seq
      (.region [⟨(some 21), (.val (.mov (.tmp 3))), none⟩,
        ⟨(some 22), (.val (.mov (.tmp 5))), none⟩,
        ⟨(some 23), (.val (.eq false (.prim 1) (.tmp 21) (.tmp 22))), none⟩,
        ⟨(some 24), (.val (.mov (.tmp 23))), none⟩,
        ⟨(some 25), (.val (.mov (.tmp 4))), (some (24, true))⟩,
        ⟨(some 26), (.val (.mov (.tmp 6))), (some (24, true))⟩,
        ⟨(some 27), (.val (.eq false (.prim 0) (.tmp 25) (.tmp 26))), (some (24, true))⟩,
        ⟨(some 28), (.val (.pick (.tmp 24) (.tmp 27) (.const (.bool false)))), none⟩,
        ⟨(some 29), (.val (.mov (.tmp 28))), none⟩,
        ⟨(some 30), (.call (.const (.func 6 [] [])) []), (some (29, true))⟩,
        ⟨(some 31), (.val (.pick (.tmp 29) (.tmp 30) (.const (.bool false)))), none⟩,
        ⟨(some 2), (.val (.mov (.tmp 31))), none⟩])
      .ret))))),
 [.tmp 2]⟩
theorem ok4 : cFun Try.prog G Try.f4 = some F4 := by kernel_rfl

/- balustrade/balustradelaw01.ArithTells -/
def F5 : IFun :=
 ⟨160,
 (.seq
  (.region [⟨(some 4), (.val (.mov (.const (.bool false)))), none⟩])
  (.seq
   (.region [⟨(some 30), (.val (.mov (.tmp 0))), none⟩,
     ⟨(some 31), (.val (.mov (.tmp 1))), none⟩,
     ⟨(some 32), (.call (.const (.func 7 [] [])) [(.tmp 30), (.tmp 31)]), none⟩,
     ⟨(some 29), (.val (.mov (.tmp 32))), none⟩,
     ⟨(some 33), (.val (.extract (.tmp 29) 0)), none⟩,
     ⟨(some 34), (.val (.extract (.tmp 29) 1)), none⟩,
     ⟨(some 5), (.val (.mov (.tmp 33))), none⟩,
     ⟨(some 6), (.val (.mov (.tmp 34))), none⟩])
   (.seq
    (.region [⟨(some 36), (.val (.mov (.tmp 0))), none⟩,
      ⟨(some 37), (.val (.mov (.tmp 1))), none⟩,
      ⟨(some 38), (.call (.const (.func 14 [] [])) [(.tmp 36), (.tmp 37)]), none⟩,
      ⟨(some 35), (.val (.mov (.tmp 38))), none⟩,
      ⟨(some 39), (.val (.extract (.tmp 35) 0)), none⟩,
      ⟨(some 40), (.val (.extract (.tmp 35) 1)), none⟩,
      ⟨(some 7), (.val (.mov (.tmp 39))), none⟩,
      ⟨(some 8), (.val (.mov (.tmp 40))), none⟩])
    (.seq
     (.region [⟨(some 42), (.val (.mov (.tmp 0))), none⟩,
       ⟨(some 43), (.val (.mov (.tmp 1))), none⟩,
       ⟨(some 44), (.call (.const (.func 8 [] [])) [(.tmp 42), (.tmp 43)]), none⟩,
       ⟨(some 41), (.val (.mov (.tmp 44))), none⟩,
       ⟨(some 45), (.val (.extract (.tmp 41) 0)), none⟩,
       ⟨(some 46), (.val (.extract (.tmp 41) 1)), none⟩,
       ⟨(some 9), (.val (.mov (.tmp 45))), none⟩,
       ⟨(some 10), (.val (.mov (.tmp 46))), none⟩])
     (.seq
      (.region [⟨(some 48), (.val (.mov (.tmp 0))), none⟩,
        ⟨(some 49), (.val (.mov (.tmp 1))), none⟩,
        ⟨(some 50), (.call (.const (.func 15 [] [])) [(.tmp 48), (.tmp 49)]), none⟩,
        ⟨(some 47), (.val (.mov (.tmp 50))), none⟩,
        ⟨(some 51), (.val (.extract (.tmp 47) 0)), none⟩,
        ⟨(some 52), (.val (.extract (.tmp 47) 1)), none⟩,
        ⟨(some 11), (.val (.mov (.tmp 51))), none⟩,
        ⟨(some 12), (.val (.mov (.tmp 52))), none⟩])
      (.seq
       (.region [⟨(some 54), (.val (.mov (.tmp 0))), none⟩,
         ⟨(some 55), (.val (.mov (.tmp 1))), none⟩,
         ⟨(some 56), (.call (.const (.func 9 [] [])) [(.tmp 54), (.tmp 55)]), none⟩,
         ⟨(some 53), (.val (.mov (.tmp 56))), none⟩,
         ⟨(some 57), (.val (.extract (.tmp 53) 0)), none⟩,
         ⟨(some 58), (.val (.extract (.tmp 53) 1)), none⟩,
         ⟨(some 13), (.val (.mov (.tmp 57))), none⟩,
         ⟨(some 14), (.val (.mov (.tmp 58))), none⟩])
       (.seq
        (.region [⟨(some 60), (.val (.mov (.tmp 0))), none⟩,
          ⟨(some 61), (.val (.mov (.tmp 1))), none⟩,
          ⟨(some 62), (.call (.const (.func 16 [] [])) [(.tmp 60), (.tmp 61)]), none⟩,
          ⟨(some 59), (.val (.mov (.tmp 62))), none⟩,
          ⟨(some 63), (.val (.extract (.tmp 59) 0)), none⟩,
          ⟨(some 64), (.val (.extract (.tmp 59) 1)), none⟩,
          ⟨(some 15), (.val (.mov (.tmp 63))), none⟩,
          ⟨(some 16), (.val (.mov (.tmp 64))), none⟩])
        (.seq
         (.region [⟨(some 66), (.val (.mov (.tmp 0))), none⟩,
           ⟨(some 67), (.call (.const (.func 17 [] [])) [(.tmp 66)]), none⟩,
           ⟨(some 65), (.val (.mov (.tmp 67))), none⟩,
           ⟨(some 68), (.val (.extract (.tmp 65) 0)), none⟩,
           ⟨(some 69), (.val (.extract (.tmp 65) 1)), none⟩,
           ⟨(some 17), (.val (.mov (.tmp 68))), none⟩,
           ⟨(some 18), (.val (.mov (.tmp 69))), none⟩])
         (.seq
          (.region [⟨(some 71), (.val (.mov (.tmp 0))), none⟩,
            ⟨(some 72), (.call (.const (.func 18 [] [])) [(.tmp 71)]), none⟩,
            ⟨(some 70), (.val (.mov (.tmp 72))), none⟩,
            ⟨(some 73), (.val (.extract (.tmp 70) 0)), none⟩,
            ⟨(some 74), (.val (.extract (.tmp 70) 1)), none⟩,
            ⟨(some 19), (.val (.mov (.tmp 73))), none⟩,
            ⟨(some 20), (.val (.mov (.tmp 74))), none⟩])
          (.seq
           (.region [⟨(some 76), (.val (.mov (.tmp 0))), none⟩,
             ⟨(some 77), (.val (.mov (.tmp 1))), none⟩,
             ⟨(some 78), (.call (.const (.func 10 [] [])) [(.tmp 76), (.tmp 77)]), none⟩,
             ⟨(some 75), (.val (.mov (.tmp 78))), none⟩,
             ⟨(some 79), (.val (.extract (.tmp 75) 0)), none⟩,
             ⟨(some 80), (.val (.extract (.tmp 75) 1)), none⟩,
             ⟨(some 21), (.val (.mov (.tmp 79))), none⟩,
             ⟨(some 22), (.val (.mov (.tmp 80))), none⟩])
           (.seq
            (.region [⟨(some 82), (.val (.mov (.tmp 0))), none⟩,
              ⟨(some 83), (.val (.mov (.tmp 1))), none⟩,
              ⟨(some 84), (.call (.const (.func 19 [] [])) [(.tmp 82), (.tmp 83)]), none⟩,
              ⟨(some 81), (.val (.mov (.tmp 84))), none⟩,
              ⟨(some 85), (.val (.extract (.tmp 81) 0)), none⟩,
              ⟨(some 86), (.val (.extract (.tmp 81) 1)), none⟩,
              ⟨(some 23), (.val (.mov (.tmp 85))), none⟩,
              ⟨(some 24), (.val (.mov (.tmp 86))), none⟩])
            (.seq
             (.region [⟨(some 88), (.val (.mov (.tmp 0))), none⟩,
               ⟨(some 89), (.val (.mov (.tmp 1))), none⟩,
               ⟨(some 90), (.call (.const (.func 11 [] [])) [(.tmp 88), (.tmp 89)]), none⟩,
               ⟨(some 87), (.val (.mov (.tmp 90))), none⟩,
               ⟨(some 91), (.val (.extract (.tmp 87) 0)), none⟩,
               ⟨(some 92), (.val (.extract (.tmp 87) 1)), none⟩,
               ⟨(some 25), (.val (.mov (.tmp 91))), none⟩,
               ⟨(some 26), (.val (.mov (.tmp 92))), none⟩])
             (.seq
              (.region [⟨(some 94), (.val (.mov (.tmp 0))), none⟩,
                ⟨(some 95), (.val (.mov (.tmp 1))), none⟩,
                ⟨(some 96), (.call (.const (.func 20 [] [])) [(.tmp 94), (.tmp 95)]), none⟩,
                ⟨(some 93), (.val (.mov (.tmp 96))), none⟩,
                ⟨(some 97), (.val (.extract (.tmp 93) 0)), none⟩,
                ⟨(some 98), (.val (.extract (.tmp 93) 1)), none⟩,
                ⟨(some 27), (.val (.mov (.tmp 97))), none⟩,
                ⟨(some 28), (.val (.mov (.tmp 98))), none⟩])
              (.seq
               (.region [⟨(some 99), (.val (.mov (.tmp 5))), none⟩,
                 ⟨(some 100), (.val (.mov (.tmp 7))), none⟩,
                 ⟨(some 101), (.val (.eq false (.prim 1) (.tmp 99) (.tmp 100))), none⟩,
                 ⟨(some 102), (.val (.mov (.tmp 101))), none⟩,
                 ⟨(some 103), (.val (.mov (.tmp 6))), (some (102, true))⟩,
                 ⟨(some 104), (.val (.mov (.tmp 8))), (some (102, true))⟩,
                 ⟨(some 105), (.val (.eq false (.prim 0) (.tmp 103) (.tmp 104))), (some (102, true))⟩,
                 ⟨(some 106), (.val (.pick (.tmp 102) (.tmp 105) (.const (.bool false)))), none⟩,
                 ⟨(some 107), (.val (.mov (.tmp 106))), none⟩,
                 ⟨(some 108), (.val (.mov (.tmp 9))), (some (107, true))⟩,
                 ⟨(some 109), (.val (.mov (.tmp 11))), (some (107, true))⟩,
                 ⟨(some 110), (.val (.eq false (.prim 1) (.tmp 108) (.tmp 109))), (some (107, true))⟩,
                 ⟨(some 111), (.val (.pick (.tmp 107) (.tmp 110) (.const (.bool false)))), none⟩,
                 ⟨(some 112), (.val (.mov (.tmp 111))), none⟩,
                 ⟨(some 113), (.val (.mov (.tmp 10))), (some (112, true))⟩,
                 ⟨(some 114), (.val (.mov (.tmp 12))), (some (112, true))⟩,
                 ⟨(some 115), (.val (.eq false (.prim 0) (.tmp 113) (.tmp 114))), (some (112, true))⟩,
                 ⟨(some 116), (.val (.pick (.tmp 112) (.tmp 115) (.const (.bool false)))), none⟩,
                 ⟨(some 117), (.val (.mov (.tmp 116))), none⟩,
                 ⟨(some 118), (.val (.mov (.tmp 13))), (some (117, true))⟩,
                 ⟨(some 119), (.val (.mov (.tmp 15))), (some (117, true))⟩,
                 ⟨(some 120), (.val (.eq false (.prim 1) (.tmp 118) (.tmp 119))), (some (117, true))⟩,
                 ⟨(some 121), (.val (.pick (.tmp 117) (.tmp 120) (.const (.bool false)))), none⟩,
                 ⟨(some 122), (.val (.mov (.tmp 121))), none⟩,
                 ⟨(some 123), (.val (.mov (.tmp 14))), (some (122, true))⟩,
                 ⟨(some 124), (.val (.mov (.tmp 16))), (some (122, true))⟩,
                 ⟨(some 125), (.val (.eq false (.prim 0) (.tmp 123) (.tmp 124))), (some (122, true))⟩,
                 ⟨(some 126), (.val (.pick (.tmp 122) (.tmp 125) (.const (.bool false)))), none⟩,
                 ⟨(some 127), (.val (.mov (.tmp 126))), none⟩,
                 ⟨(some 128), (.val (.mov (.tmp 17))), (some (127, true))⟩,
                 ⟨(some 129), (.val (.mov (.tmp 19))), (some (127, true))⟩,
                 ⟨(some 130), (.val (.eq false (.prim 1) (.tmp 128) (.tmp 129))), (some (127, true))⟩,
                 ⟨(some 131), (.val (.pick (.tmp 127) (.tmp 130) (.const (.bool false)))), none⟩,
                 ⟨(some 132), (.val (.mov (.tmp 131))), none⟩,
                 ⟨(some 133), (.val (.mov (.tmp 18))), (some (132, true))⟩,
                 ⟨(some 134), (.val (.mov (.tmp 20))), (some (132, true))⟩,
                 ⟨(some 135), (.val (.eq false (.prim 0) (.tmp 133) (.tmp 134))), (some (132, true))⟩,
                 ⟨(some 136), (.val (.pick (.tmp 132) (.tmp 135) (.const (.bool false)))), none⟩,
                 ⟨(some 137), (.val (.mov (.tmp 136))), none⟩,
                 ⟨(some 138), (.val (.mov (.tmp 21))), (some (137, true))⟩,
                 ⟨(some 139), (.val (.mov (.tmp 23))), (some (137, true))⟩,
                 ⟨(some 140), (.val (.eq false (.prim 1) (.tmp 138) (.tmp 139))), (some (137, true))⟩,
                 ⟨(some 141), (.val (.pick (.tmp 137) (.tmp 140) (.const (.bool false)))), none⟩,
                 ⟨(some 142), (.val (.mov (.tmp 141))), none⟩,
                 ⟨(some 143), (.val (.mov (.tmp 22))), (some (142, true))⟩,
                 ⟨(some 144), (.val (.mov (.tmp 24))), (some (142, true))⟩,
                 ⟨(some 145), (.val (.eq false (.prim 0) (.tmp 143) (.tmp 144))), (some (142, true))⟩,
                 ⟨(some 146), (.val (.pick (.tmp 142) (.tmp 145) (.const (.bool false)))), none⟩,
                 ⟨(some 147), (.val (.mov (.tmp 146))), none⟩,
                 ⟨(some 148), (.val (.mov (.tmp 25))), (some (147, true))⟩,
                 ⟨(some 149), (.val (.mov (.tmp 27))), (some (147, true))⟩,
                 ⟨(some 150), (.val (.eq false (.prim 1) (.tmp 148) (.tmp 149))), (some (147, true))⟩,
                 ⟨(some 151), (.val (.pick (.tmp 147) (.tmp 150) (.const (.bool false)))), none⟩,
                 ⟨(some 152), (.val (.mov (.tmp 151))), none⟩,
                 ⟨(some 153), (.val (.mov (.tmp 26))), (some (152, true))⟩,
                 ⟨(some 154), (.val (.mov (.tmp 28))), (some (152, true))⟩,
                 ⟨(some 155), (.val (.eq false (.prim 0) (.tmp 153) (.tmp 154))), (some (152, true))⟩,
                 ⟨(some 156), (.val (.pick (.tmp 152) (.tmp 155) (.const (.bool false)))), none⟩,
                 ⟨(some 157), (.val (.mov (.tmp 156))), none⟩,
                 ⟨(some 158), (.call (.const (.func 6 [] [])) []), (some (157, true))⟩,
                 ⟨(some 159), (.val (.pick (.tmp 157) (.tmp 158) (.const (.bool false)))), none⟩,
                 ⟨(some 4), (.val (.mov (.tmp 159))), none⟩])
               .ret)))))))))))))),
 [.tmp 4]⟩
theorem ok5 : cFun Try.prog G Try.f5 = some F5 := by kernel_rfl

/- balustrade/balustradelaw01.works -/
def F6 : IFun :=
 ⟨49,
 (.seq
  (.region [⟨(some 0), (.val (.mov (.const (.bool false)))), none⟩])
  (.seq
   (.region [⟨(some 10), (.call (.const (.func 7 [] [])) [(.const (.int .i64 9223372036854775807)), (.const (.int .i64 1))]), none⟩,
     ⟨(some 9), (.val (.mov (.tmp 10))), none⟩,
     ⟨(some 11), (.val (.extract (.tmp 9) 0)), none⟩,
     ⟨(some 12), (.val (.extract (.tmp 9) 1)), none⟩,
     ⟨(some 1), (.val (.mov (.tmp 11))), none⟩,
     ⟨(some 2), (.val (.mov (.tmp 12))), none⟩])
   (.seq
    (.region [⟨(some 14), (.call (.const (.func 10 [] [])) [(.const (.int .i64 (-7))), (.const (.int .i64 2))]), none⟩,
      ⟨(some 13), (.val (.mov (.tmp 14))), none⟩,
      ⟨(some 15), (.val (.extract (.tmp 13) 0)), none⟩,
      ⟨(some 16), (.val (.extract (.tmp 13) 1)), none⟩,
      ⟨(some 3), (.val (.mov (.tmp 15))), none⟩,
      ⟨(some 4), (.val (.mov (.tmp 16))), none⟩])
    (.seq
     (.region [⟨(some 18), (.call (.const (.func 11 [] [])) [(.const (.int .i64 (-7))), (.const (.int .i64 2))]), none⟩,
       ⟨(some 17), (.val (.mov (.tmp 18))), none⟩,
       ⟨(some 19), (.val (.extract (.tmp 17) 0)), none⟩,
       ⟨(some 20), (.val (.extract (.tmp 17) 1)), none⟩,
       ⟨(some 5), (.val (.mov (.tmp 19))), none⟩,
       ⟨(some 6), (.val (.mov (.tmp 20))), none⟩])
     (.seq
      (.region [⟨(some 22), (.val (.bslice 3 1 3 [(.int .i64 0)] [(0, (.const (.int .i64 9223372036854775807))), (1, (.const (.int .i64 1))), (2, (.const (.int .i64 (-1))))])), none⟩,
        ⟨(some 23), (.call (.const (.func 12 [] [])) [(.tmp 22)]), none⟩,
        ⟨(some 21), (.val (.mov (.tmp 23))), none⟩,
        ⟨(some 24), (.val (.extract (.tmp 21) 0)), none⟩,
        ⟨(some 25), (.val (.extract (.tmp 21) 1)), none⟩,
        ⟨(some 7), (.val (.mov (.tmp 24))), none⟩,
        ⟨(some 8), (.val (.mov (.tmp 25))), none⟩])
      (.seq
       (.region [⟨(some 26), (.val (.mov (.tmp 2))), none⟩,
         ⟨(some 27), (.val (.un .not (.tmp 26))), none⟩,
         ⟨(some 28), (.val (.mov (.tmp 27))), none⟩,
         ⟨(some 29), (.val (.mov (.tmp 3))), (some (28, true))⟩,
         ⟨(some 30), (.val (.eq false (.prim 1) (.tmp 29) (.const (.int .i64 (-3))))), (some (28, true))⟩,
         ⟨(some 31), (.val (.pick (.tmp 28) (.tmp 30) (.const (.bool false)))), none⟩,
         ⟨(some 32), (.val (.mov (.tmp 31))), none⟩,
         ⟨(some 33), (.val (.mov (.tmp 4))), (some (32, true))⟩,
         ⟨(some 34), (.val (.pick (.tmp 32) (.tmp 33) (.const (.bool false)))), none⟩,
         ⟨(some 35), (.val (.mov (.tmp 34))), none⟩,
         ⟨(some 36), (.val (.mov (.tmp 5))), (some (35, true))⟩,
         ⟨(some 37), (.val (.eq false (.prim 1) (.tmp 36) (.const (.int .i64 (-1))))), (some (35, true))⟩,
         ⟨(some 38), (.val (.pick (.tmp 35) (.tmp 37) (.const (.bool false)))), none⟩,
         ⟨(some 39), (.val (.mov (.tmp 38))), none⟩,
         ⟨(some 40), (.val (.mov (.tmp 6))), (some (39, true))⟩,
         ⟨(some 41), (.val (.pick (.tmp 39) (.tmp 40) (.const (.bool false)))), none⟩,
         ⟨(some 42), (.val (.mov (.tmp 41))), none⟩,
         ⟨(some 43), (.val (.mov (.tmp 7))), (some (42, true))⟩,
         ⟨(some 44), (.val (.eq false (.prim 1) (.tmp 43) (.const (.int .i64 9223372036854775807)))), (some (42, true))⟩,
         ⟨(some 45), (.val (.pick (.tmp 42) (.tmp 44) (.const (.bool false)))), none⟩,
         ⟨(some 46), (.val (.mov (.tmp 45))), none⟩,
         ⟨(some 47), (.val (.mov (.tmp 8))), (some (46, true))⟩,
         ⟨(some 48), (.val (.pick (.tmp 46) (.tmp 47) (.const (.bool false)))), none⟩,
         ⟨(some 0), (.val (.mov (.tmp 48))), none⟩])
       .ret)))))),
 [.tmp 0]⟩
theorem ok6 : cFun Try.prog G Try.f6 = some F6 := by kernel_rfl

/- balustrade/arith.Add -/
def F7 : IFun :=
 ⟨19,
 (.seq
  (.region [⟨(some 4), (.val (.mov (.const (.int .i64 0)))), none⟩,
    ⟨(some 5), (.val (.mov (.const (.bool false)))), none⟩])
  (.seq
   (.region [⟨(some 7), (.val (.mov (.tmp 0))), none⟩,
     ⟨(some 8), (.val (.mov (.tmp 1))), none⟩,
     ⟨(some 9), (.val (.bin .add (.tmp 7) (.tmp 8))), none⟩,
     ⟨(some 6), (.val (.mov (.tmp 9))), none⟩])
   (.seq
    (.seq
     (.region [⟨(some 10), (.val (.mov (.tmp 0))), none⟩,
       ⟨(some 11), (.val (.mov (.tmp 6))), none⟩,
       ⟨(some 12), (.val (.bin .xor (.tmp 10) (.tmp 11))), none⟩,
       ⟨(some 13), (.val (.mov (.tmp 1))), none⟩,
       ⟨(some 14), (.val (.mov (.tmp 6))), none⟩,
       ⟨(some 15), (.val (.bin .xor (.tmp 13) (.tmp 14))), none⟩,
       ⟨(some 16), (.val (.bin .and (.tmp 12) (.tmp 15))), none⟩,
       ⟨(some 17), (.val (.bin .lss (.tmp 16) (.const (.int .i64 0)))), none⟩])
     (.cond (.tmp 17)
      (.seq
       (.region [⟨(some 4), (.val (.mov (.const (.int .i64 0)))), none⟩,
         ⟨(some 5), (.val (.mov (.const (.bool false)))), none⟩])
       .ret)
      .skip))
    (.seq
     (.region [⟨(some 18), (.val (.mov (.tmp 6))), none⟩,
       ⟨(some 4), (.val (.mov (.tmp 18))), none⟩,
       ⟨(some 5), (.val (.mov (.const (.bool true)))), none⟩])
     .ret)))),
 [.tmp 4, .tmp 5]⟩
theorem ok7 : cFun Try.prog G Try.f7 = some F7 := by kernel_rfl

/- balustrade/arith.Sub -/
def F8 : IFun :=
 ⟨19,
 (.seq
  (.region [⟨(some 4), (.val (.mov (.const (.int .i64 0)))), none⟩,
    ⟨(some 5), (.val (.mov (.const (.bool false)))), none⟩])
  (.seq
   (.region [⟨(some 7), (.val (.mov (.tmp 0))), none⟩,
     ⟨(some 8), (.val (.mov (.tmp 1))), none⟩,
     ⟨(some 9), (.val (.bin .sub (.tmp 7) (.tmp 8))), none⟩,
     ⟨(some 6), (.val (.mov (.tmp 9))), none⟩])
   (.seq
    (.seq
     (.region [⟨(some 10), (.val (.mov (.tmp 0))), none⟩,
       ⟨(some 11), (.val (.mov (.tmp 1))), none⟩,
       ⟨(some 12), (.val (.bin .xor (.tmp 10) (.tmp 11))), none⟩,
       ⟨(some 13), (.val (.mov (.tmp 0))), none⟩,
       ⟨(some 14), (.val (.mov (.tmp 6))), none⟩,
       ⟨(some 15), (.val (.bin .xor (.tmp 13) (.tmp 14))), none⟩,
       ⟨(some 16), (.val (.bin .and (.tmp 12) (.tmp 15))), none⟩,
       ⟨(some 17), (.val (.bin .lss (.tmp 16) (.const (.int .i64 0)))), none⟩])
     (.cond (.tmp 17)
      (.seq
       (.region [⟨(some 4), (.val (.mov (.const (.int .i64 0)))), none⟩,
         ⟨(some 5), (.val (.mov (.const (.bool false)))), none⟩])
       .ret)
      .skip))
    (.seq
     (.region [⟨(some 18), (.val (.mov (.tmp 6))), none⟩,
       ⟨(some 4), (.val (.mov (.tmp 18))), none⟩,
       ⟨(some 5), (.val (.mov (.const (.bool true)))), none⟩])
     .ret)))),
 [.tmp 4, .tmp 5]⟩
theorem ok8 : cFun Try.prog G Try.f8 = some F8 := by kernel_rfl

/- balustrade/arith.Mul -/
def F9 : IFun :=
 ⟨33,
 (.seq
  (.region [⟨(some 4), (.val (.mov (.const (.int .i64 0)))), none⟩,
    ⟨(some 5), (.val (.mov (.const (.bool false)))), none⟩])
  (.seq
   (.region [⟨(some 10), (.val (.mov (.tmp 0))), none⟩,
     ⟨(some 11), (.call (.const (.func 22 [] [])) [(.tmp 10)]), none⟩,
     ⟨(some 12), (.val (.mov (.tmp 1))), none⟩,
     ⟨(some 13), (.call (.const (.func 22 [] [])) [(.tmp 12)]), none⟩,
     ⟨(some 14), (.call (.const (.func 21 [] [])) [(.tmp 11), (.tmp 13)]), none⟩,
     ⟨(some 9), (.val (.mov (.tmp 14))), none⟩,
     ⟨(some 15), (.val (.extract (.tmp 9) 0)), none⟩,
     ⟨(some 16), (.val (.extract (.tmp 9) 1)), none⟩,
     ⟨(some 6), (.val (.mov (.tmp 15))), none⟩,
     ⟨(some 7), (.val (.mov (.tmp 16))), none⟩])
   (.seq
    (.region [⟨(some 8), (.val (.mov (.const (.int .u64 9223372036854775807)))), none⟩])
    (.seq
     (.seq
      (.region [⟨(some 17), (.val (.mov (.tmp 0))), none⟩,
        ⟨(some 18), (.val (.mov (.tmp 1))), none⟩,
        ⟨(some 19), (.val (.bin .xor (.tmp 17) (.tmp 18))), none⟩,
        ⟨(some 20), (.val (.bin .lss (.tmp 19) (.const (.int .i64 0)))), none⟩])
      (.cond (.tmp 20)
       (.region [⟨(some 21), (.val (.mov (.tmp 8))), none⟩,
         ⟨(some 22), (.val (.bin .add (.tmp 21) (.const (.int .u64 1)))), none⟩,
         ⟨(some 8), (.val (.mov (.tmp 22))), none⟩])
       .skip))
     (.seq
      (.seq
       (.region [⟨(some 23), (.val (.mov (.tmp 6))), none⟩,
         ⟨(some 24), (.val (.eq true (.prim 1) (.tmp 23) (.const (.int .u64 0)))), none⟩,
         ⟨(some 25), (.val (.mov (.tmp 24))), none⟩,
         ⟨(some 26), (.val (.mov (.tmp 7))), (some (25, false))⟩,
         ⟨(some 27), (.val (.mov (.tmp 8))), (some (25, false))⟩,
         ⟨(some 28), (.val (.bin .gtr (.tmp 26) (.tmp 27))), (some (25, false))⟩,
         ⟨(some 29), (.val (.pick (.tmp 25) (.const (.bool true)) (.tmp 28))), none⟩])
       (.cond (.tmp 29)
        (.seq
         (.region [⟨(some 4), (.val (.mov (.const (.int .i64 0)))), none⟩,
           ⟨(some 5), (.val (.mov (.const (.bool false)))), none⟩])
         .ret)
        .skip))
      (.seq
       (.region [⟨(some 30), (.val (.mov (.tmp 0))), none⟩,
         ⟨(some 31), (.val (.mov (.tmp 1))), none⟩,
         ⟨(some 32), (.val (.bin .mul (.tmp 30) (.tmp 31))), none⟩,
         ⟨(some 4), (.val (.mov (.tmp 32))), none⟩,
         ⟨(some 5), (.val (.mov (.const (.bool true)))), none⟩])
       .ret)))))),
 [.tmp 4, .tmp 5]⟩
theorem ok9 : cFun Try.prog G Try.f9 = some F9 := by kernel_rfl

/- balustrade/arith.Div -/
def F10 : IFun :=
 ⟨13,
 (.seq
  (.region [⟨(some 4), (.val (.mov (.const (.int .i64 0)))), none⟩,
    ⟨(some 5), (.val (.mov (.const (.bool false)))), none⟩])
  (.seq
   (.seq
    (.region [⟨(some 6), (.val (.mov (.tmp 0))), none⟩,
      ⟨(some 7), (.val (.mov (.tmp 1))), none⟩,
      ⟨(some 8), (.call (.const (.func 23 [] [])) [(.tmp 6), (.tmp 7)]), none⟩,
      ⟨(some 9), (.val (.un .not (.tmp 8))), none⟩])
    (.cond (.tmp 9)
     (.seq
      (.region [⟨(some 4), (.val (.mov (.const (.int .i64 0)))), none⟩,
        ⟨(some 5), (.val (.mov (.const (.bool false)))), none⟩])
      .ret)
     .skip))
   (.seq
    (.region [⟨(some 10), (.val (.mov (.tmp 0))), none⟩,
      ⟨(some 11), (.val (.mov (.tmp 1))), none⟩,
      ⟨(some 12), (.val (.bin .quo (.tmp 10) (.tmp 11))), none⟩,
      ⟨(some 4), (.val (.mov (.tmp 12))), none⟩,
      ⟨(some 5), (.val (.mov (.const (.bool true)))), none⟩])
    .ret))),
 [.tmp 4, .tmp 5]⟩
theorem ok10 : cFun Try.prog G Try.f10 = some F10 := by kernel_rfl

/- balustrade/arith.Mod -/
def F11 : IFun :=
 ⟨13,
 (.seq
  (.region [⟨(some 4), (.val (.mov (.const (.int .i64 0)))), none⟩,
    ⟨(some 5), (.val (.mov (.const (.bool false)))), none⟩])
  (.seq
   (.seq
    (.region [⟨(some 6), (.val (.mov (.tmp 0))), none⟩,
      ⟨(some 7), (.val (.mov (.tmp 1))), none⟩,
      ⟨(some 8), (.call (.const (.func 23 [] [])) [(.tmp 6), (.tmp 7)]), none⟩,
      ⟨(some 9), (.val (.un .not (.tmp 8))), none⟩])
    (.cond (.tmp 9)
     (.seq
      (.region [⟨(some 4), (.val (.mov (.const (.int .i64 0)))), none⟩,
        ⟨(some 5), (.val (.mov (.const (.bool false)))), none⟩])
      .ret)
     .skip))
   (.seq
    (.region [⟨(some 10), (.val (.mov (.tmp 0))), none⟩,
      ⟨(some 11), (.val (.mov (.tmp 1))), none⟩,
      ⟨(some 12), (.val (.bin .rem (.tmp 10) (.tmp 11))), none⟩,
      ⟨(some 4), (.val (.mov (.tmp 12))), none⟩,
      ⟨(some 5), (.val (.mov (.const (.bool true)))), none⟩])
    .ret))),
 [.tmp 4, .tmp 5]⟩
theorem ok11 : cFun Try.prog G Try.f11 = some F11 := by kernel_rfl

/- balustrade/arith.Sum -/
def F12l0 : ICode :=
 (.seq
  (.region [⟨(some 13), (.val (.bin .lss (.tmp 12) (.tmp 11))), none⟩])
  (.seq
   (.cond (.tmp 13)
    .skip
    (.exit 0))
   (.seq
    (.block 1
     (.seq
      (.region [⟨(some 14), (.val (.iaddr 1 (.tmp 10) (.tmp 12))), none⟩,
        ⟨(some 15), (.val (.load none (.tmp 14))), none⟩,
        ⟨(some 7), (.val (.mov (.tmp 15))), none⟩])
      (.seq
       (.region [⟨(some 8), (.val (.mov (.const (.int .u64 0)))), none⟩])
       (.seq
        (.region [⟨(some 17), (.val (.mov (.tmp 5))), none⟩,
          ⟨(some 18), (.val (.mov (.tmp 7))), none⟩,
          ⟨(some 19), (.val (.conv (.int .u64) (.tmp 18))), none⟩,
          ⟨(some 20), (.call (.const (.func 24 [] [])) [(.tmp 17), (.tmp 19), (.const (.int .u64 0))]), none⟩,
          ⟨(some 16), (.val (.mov (.tmp 20))), none⟩,
          ⟨(some 21), (.val (.extract (.tmp 16) 0)), none⟩,
          ⟨(some 22), (.val (.extract (.tmp 16) 1)), none⟩,
          ⟨(some 5), (.val (.mov (.tmp 21))), none⟩,
          ⟨(some 8), (.val (.mov (.tmp 22))), none⟩])
        (.region [⟨(some 23), (.val (.mov (.tmp 4))), none⟩,
          ⟨(some 24), (.val (.mov (.tmp 7))), none⟩,
          ⟨(some 25), (.val (.bin .shr (.tmp 24) (.const (.int .u64 63)))), none⟩,
          ⟨(some 26), (.val (.conv (.int .u64) (.tmp 25))), none⟩,
          ⟨(some 27), (.val (.mov (.tmp 8))), none⟩,
          ⟨(some 28), (.val (.bin .add (.tmp 26) (.tmp 27))), none⟩,
          ⟨(some 29), (.val (.bin .add (.tmp 23) (.tmp 28))), none⟩,
          ⟨(some 4), (.val (.mov (.tmp 29))), none⟩])))))
    (.region [⟨(some 30), (.val (.bin .add (.tmp 12) (.const (.int .i64 1)))), none⟩,
      ⟨(some 12), (.val (.mov (.tmp 30))), none⟩]))))
def F12 : IFun :=
 ⟨39,
 (.seq
  (.region [⟨(some 2), (.val (.mov (.const (.int .i64 0)))), none⟩,
    ⟨(some 3), (.val (.mov (.const (.bool false)))), none⟩])
  (.seq
   (.region [⟨(some 4), (.val (.mov (.const (.int .u64 0)))), none⟩,
     ⟨(some 5), (.val (.mov (.const (.int .u64 0)))), none⟩])
   (.seq
    (.seq
     (.region [⟨(some 10), (.val (.mov (.tmp 0))), none⟩,
       ⟨(some 11), (.val (.len (.tmp 10))), none⟩,
       ⟨(some 12), (.val (.mov (.const (.int .i64 0)))), none⟩])
     (.block 0
      (.loop F12l0)))
    (.seq
     (.seq
      (.region [⟨(some 31), (.val (.mov (.tmp 5))), none⟩,
        ⟨(some 32), (.val (.conv (.int .i64) (.tmp 31))), none⟩,
        ⟨(some 9), (.val (.mov (.tmp 32))), none⟩])
      (.seq
       (.region [⟨(some 33), (.val (.mov (.tmp 4))), none⟩,
         ⟨(some 34), (.val (.mov (.tmp 9))), none⟩,
         ⟨(some 35), (.val (.bin .shr (.tmp 34) (.const (.int .u64 63)))), none⟩,
         ⟨(some 36), (.val (.conv (.int .u64) (.tmp 35))), none⟩,
         ⟨(some 37), (.val (.eq false (.prim 1) (.tmp 33) (.tmp 36))), none⟩])
       (.cond (.tmp 37)
        (.seq
         (.region [⟨(some 38), (.val (.mov (.tmp 9))), none⟩,
           ⟨(some 2), (.val (.mov (.tmp 38))), none⟩,
           ⟨(some 3), (.val (.mov (.const (.bool true)))), none⟩])
         .ret)
        .skip)))
     (.seq
      (.region [⟨(some 2), (.val (.mov (.const (.int .i64 0)))), none⟩,
        ⟨(some 3), (.val (.mov (.const (.bool false)))), none⟩])
      .ret))))),
 [.tmp 2, .tmp 3]⟩
theorem ok12 : cFun Try.prog G Try.f12 = some F12 := by kernel_rfl

/- balustrade/balustraderef01.Sum -/
def F13l0 : ICode :=
 (.seq
  (.seq
   (.region [⟨(some 7), (.val (.mov (.tmp 6))), none⟩,
     ⟨(some 8), (.val (.mov (.tmp 0))), none⟩,
     ⟨(some 9), (.val (.len (.tmp 8))), none⟩,
     ⟨(some 10), (.val (.bin .lss (.tmp 7) (.tmp 9))), none⟩])
   (.cond (.tmp 10)
    .skip
    (.exit 0)))
  (.seq
   (.block 1
    (.seq
     (.region [⟨(some 13), (.val (.mov (.tmp 4))), none⟩,
       ⟨(some 14), (.val (.mov (.tmp 0))), none⟩,
       ⟨(some 15), (.val (.mov (.tmp 6))), none⟩,
       ⟨(some 16), (.val (.iaddr 1 (.tmp 14) (.tmp 15))), none⟩,
       ⟨(some 17), (.val (.load none (.tmp 16))), none⟩,
       ⟨(some 18), (.val (.bin .shr (.tmp 17) (.const (.int .u64 32)))), none⟩,
       ⟨(some 19), (.val (.bin .add (.tmp 13) (.tmp 18))), none⟩,
       ⟨(some 4), (.val (.mov (.tmp 19))), none⟩])
     (.region [⟨(some 20), (.val (.mov (.tmp 5))), none⟩,
       ⟨(some 21), (.val (.mov (.tmp 0))), none⟩,
       ⟨(some 22), (.val (.mov (.tmp 6))), none⟩,
       ⟨(some 23), (.val (.iaddr 1 (.tmp 21) (.tmp 22))), none⟩,
       ⟨(some 24), (.val (.load none (.tmp 23))), none⟩,
       ⟨(some 25), (.val (.bin .and (.tmp 24) (.const (.int .i64 4294967295)))), none⟩,
       ⟨(some 26), (.val (.bin .add (.tmp 20) (.tmp 25))), none⟩,
       ⟨(some 5), (.val (.mov (.tmp 26))), none⟩])))
   (.region [⟨(some 11), (.val (.mov (.tmp 6))), none⟩,
     ⟨(some 12), (.val (.bin .add (.tmp 11) (.const (.int .i64 1)))), none⟩,
     ⟨(some 6), (.val (.mov (.tmp 12))), none⟩])))
def F13 : IFun :=
 ⟨42,
 (.seq
  (.region [⟨(some 2), (.val (.mov (.const (.int .i64 0)))), none⟩,
    ⟨(some 3), (.val (.mov (.const (.bool false)))), none⟩])
  (.seq
   (.region [⟨(some 4), (.val (.mov (.const (.int .i64 0)))), none⟩,
     ⟨(some 5), (.val (.mov (.const (.int .i64 0)))), none⟩])
   (.seq
    (.seq
     (.region [⟨(some 6), (.val (.mov (.const (.int .i64 0)))), none⟩])
     (.block 0
      (.loop F13l0)))
    (.seq
     (.region [⟨(some 27), (.val (.mov (.tmp 4))), none⟩,
       ⟨(some 28), (.val (.mov (.tmp 5))), none⟩,
       ⟨(some 29), (.val (.bin .shr (.tmp 28) (.const (.int .u64 32)))), none⟩,
       ⟨(some 30), (.val (.bin .add (.tmp 27) (.tmp 29))), none⟩,
       ⟨(some 4), (.val (.mov (.tmp 30))), none⟩])
     (.seq
      (.seq
       (.region [⟨(some 31), (.val (.mov (.tmp 4))), none⟩,
         ⟨(some 32), (.val (.bin .lss (.tmp 31) (.const (.int .i64 (-2147483648))))), none⟩,
         ⟨(some 33), (.val (.mov (.tmp 32))), none⟩,
         ⟨(some 34), (.val (.mov (.tmp 4))), (some (33, false))⟩,
         ⟨(some 35), (.val (.bin .geq (.tmp 34) (.const (.int .i64 2147483648)))), (some (33, false))⟩,
         ⟨(some 36), (.val (.pick (.tmp 33) (.const (.bool true)) (.tmp 35))), none⟩])
       (.cond (.tmp 36)
        (.seq
         (.region [⟨(some 2), (.val (.mov (.const (.int .i64 0)))), none⟩,
           ⟨(some 3), (.val (.mov (.const (.bool false)))), none⟩])
         .ret)
        .skip))
      (.seq
       (.region [⟨(some 37), (.val (.mov (.tmp 4))), none⟩,
         ⟨(some 38), (.val (.bin .shl (.tmp 37) (.const (.int .u64 32)))), none⟩,
         ⟨(some 39), (.val (.mov (.tmp 5))), none⟩,
         ⟨(some 40), (.val (.bin .and (.tmp 39) (.const (.int .i64 4294967295)))), none⟩,
         ⟨(some 41), (.val (.bin .add (.tmp 38) (.tmp 40))), none⟩,
         ⟨(some 2), (.val (.mov (.tmp 41))), none⟩,
         ⟨(some 3), (.val (.mov (.const (.bool true)))), none⟩])
       .ret)))))),
 [.tmp 2, .tmp 3]⟩
theorem ok13 : cFun Try.prog G Try.f13 = some F13 := by kernel_rfl

/- balustrade/balustraderef01.Add -/
def F14 : IFun :=
 ⟨27,
 (.seq
  (.region [⟨(some 4), (.val (.mov (.const (.int .i64 0)))), none⟩,
    ⟨(some 5), (.val (.mov (.const (.bool false)))), none⟩])
  (.seq
   (.seq
    (.region [⟨(some 6), (.val (.mov (.tmp 0))), none⟩,
      ⟨(some 7), (.val (.bin .geq (.tmp 6) (.const (.int .i64 0)))), none⟩,
      ⟨(some 8), (.val (.mov (.tmp 7))), none⟩,
      ⟨(some 9), (.val (.mov (.tmp 1))), (some (8, true))⟩,
      ⟨(some 10), (.val (.mov (.tmp 0))), (some (8, true))⟩,
      ⟨(some 11), (.val (.bin .sub (.const (.int .i64 9223372036854775807)) (.tmp 10))), (some (8, true))⟩,
      ⟨(some 12), (.val (.bin .gtr (.tmp 9) (.tmp 11))), (some (8, true))⟩,
      ⟨(some 13), (.val (.pick (.tmp 8) (.tmp 12) (.const (.bool false)))), none⟩,
      ⟨(some 14), (.val (.mov (.tmp 13))), none⟩,
      ⟨(some 15), (.val (.mov (.tmp 0))), (some (14, false))⟩,
      ⟨(some 16), (.val (.bin .lss (.tmp 15) (.const (.int .i64 0)))), (some (14, false))⟩,
      ⟨(some 17), (.val (.mov (.tmp 16))), (some (14, false))⟩,
      ⟨(some 18), (.val (.mov (.tmp 1))), (some (17, true))⟩,
      ⟨(some 19), (.val (.mov (.tmp 0))), (some (17, true))⟩,
      ⟨(some 20), (.val (.bin .sub (.const (.int .i64 (-9223372036854775808))) (.tmp 19))), (some (17, true))⟩,
      ⟨(some 21), (.val (.bin .lss (.tmp 18) (.tmp 20))), (some (17, true))⟩,
      ⟨(some 22), (.val (.pick (.tmp 17) (.tmp 21) (.const (.bool false)))), (some (14, false))⟩,
      ⟨(some 23), (.val (.pick (.tmp 14) (.const (.bool true)) (.tmp 22))), none⟩])
    (.cond (.tmp 23)
     (.seq
      (.region [⟨(some 4), (.val (.mov (.const (.int .i64 0)))), none⟩,
        ⟨(some 5), (.val (.mov (.const (.bool false)))), none⟩])
      .ret)
     .skip))
   (.seq
    (.region [⟨(some 24), (.val (.mov (.tmp 0))), none⟩,
      ⟨(some 25), (.val (.mov (.tmp 1))), none⟩,
      ⟨(some 26), (.val (.bin .add (.tmp 24) (.tmp 25))), none⟩,
      ⟨(some 4), (.val (.mov (.tmp 26))), none⟩,
      ⟨(some 5), (.val (.mov (.const (.bool true)))), none⟩])
    .ret))),
 [.tmp 4, .tmp 5]⟩
theorem ok14 : cFun Try.prog G Try.f14 = some F14 := by kernel_rfl

/- balustrade/balustraderef01.Sub -/
def F15 : IFun :=
 ⟨19,
 (.seq
  (.region [⟨(some 4), (.val (.mov (.const (.int .i64 0)))), none⟩,
    ⟨(some 5), (.val (.mov (.const (.bool false)))), none⟩])
  (.seq
   (.seq
    (.region [⟨(some 6), (.val (.mov (.tmp 1))), none⟩,
      ⟨(some 7), (.val (.eq false (.prim 1) (.tmp 6) (.const (.int .i64 (-9223372036854775808))))), none⟩])
    (.cond (.tmp 7)
     (.seq
      (.seq
       (.region [⟨(some 8), (.val (.mov (.tmp 0))), none⟩,
         ⟨(some 9), (.val (.bin .geq (.tmp 8) (.const (.int .i64 0)))), none⟩])
       (.cond (.tmp 9)
        (.seq
         (.region [⟨(some 4), (.val (.mov (.const (.int .i64 0)))), none⟩,
           ⟨(some 5), (.val (.mov (.const (.bool false)))), none⟩])
         .ret)
        .skip))
      (.seq
       (.region [⟨(some 10), (.val (.mov (.tmp 0))), none⟩,
         ⟨(some 11), (.val (.bin .add (.tmp 10) (.const (.int .i64 9223372036854775807)))), none⟩,
         ⟨(some 12), (.val (.bin .add (.tmp 11) (.const (.int .i64 1)))), none⟩,
         ⟨(some 4), (.val (.mov (.tmp 12))), none⟩,
         ⟨(some 5), (.val (.mov (.const (.bool true)))), none⟩])
       .ret))
     .skip))
   (.seq
    (.region [⟨(some 13), (.val (.mov (.tmp 0))), none⟩,
      ⟨(some 14), (.val (.mov (.tmp 1))), none⟩,
      ⟨(some 15), (.val (.un .neg (.tmp 14))), none⟩,
      ⟨(some 16), (.call (.const (.func 14 [] [])) [(.tmp 13), (.tmp 15)]), none⟩,
      ⟨(some 17), (.val (.extract (.tmp 16) 0)), none⟩,
      ⟨(some 18), (.val (.extract (.tmp 16) 1)), none⟩,
      ⟨(some 4), (.val (.mov (.tmp 17))), none⟩,
      ⟨(some 5), (.val (.mov (.tmp 18))), none⟩])
    .ret))),
 [.tmp 4, .tmp 5]⟩
theorem ok15 : cFun Try.prog G Try.f15 = some F15 := by kernel_rfl

/- balustrade/balustraderef01.Mul -/
def F16l0 : ICode :=
 (.seq
  (.seq
   (.region [⟨(some 28), (.val (.mov (.tmp 8))), none⟩,
     ⟨(some 29), (.val (.bin .geq (.tmp 28) (.const (.int .i64 0)))), none⟩])
   (.cond (.tmp 29)
    .skip
    (.exit 0)))
  (.seq
   (.block 1
    (.seq
     (.region [⟨(some 33), (.val (.mov (.tmp 6))), none⟩,
       ⟨(some 34), (.val (.mov (.tmp 6))), none⟩,
       ⟨(some 35), (.call (.const (.func 14 [] [])) [(.tmp 33), (.tmp 34)]), none⟩,
       ⟨(some 32), (.val (.mov (.tmp 35))), none⟩,
       ⟨(some 36), (.val (.extract (.tmp 32) 0)), none⟩,
       ⟨(some 37), (.val (.extract (.tmp 32) 1)), none⟩,
       ⟨(some 6), (.val (.mov (.tmp 36))), none⟩,
       ⟨(some 7), (.val (.mov (.tmp 37))), none⟩])
     (.seq
      (.seq
       (.region [⟨(some 38), (.val (.mov (.tmp 7))), none⟩,
         ⟨(some 39), (.val (.un .not (.tmp 38))), none⟩])
       (.cond (.tmp 39)
        (.seq
         (.region [⟨(some 4), (.val (.mov (.const (.int .i64 0)))), none⟩,
           ⟨(some 5), (.val (.mov (.const (.bool false)))), none⟩])
         .ret)
        .skip))
      (.seq
       (.region [⟨(some 40), (.val (.mov (.tmp 1))), none⟩,
         ⟨(some 41), (.val (.mov (.tmp 8))), none⟩,
         ⟨(some 42), (.val (.bin .shr (.tmp 40) (.tmp 41))), none⟩,
         ⟨(some 43), (.val (.bin .and (.tmp 42) (.const (.int .i64 1)))), none⟩,
         ⟨(some 44), (.val (.eq false (.prim 1) (.tmp 43) (.const (.int .i64 1)))), none⟩])
       (.cond (.tmp 44)
        (.seq
         (.region [⟨(some 46), (.val (.mov (.tmp 6))), none⟩,
           ⟨(some 47), (.val (.mov (.tmp 0))), none⟩,
           ⟨(some 48), (.call (.const (.func 14 [] [])) [(.tmp 46), (.tmp 47)]), none⟩,
           ⟨(some 45), (.val (.mov (.tmp 48))), none⟩,
           ⟨(some 49), (.val (.extract (.tmp 45) 0)), none⟩,
           ⟨(some 50), (.val (.extract (.tmp 45) 1)), none⟩,
           ⟨(some 6), (.val (.mov (.tmp 49))), none⟩,
           ⟨(some 7), (.val (.mov (.tmp 50))), none⟩])
         (.seq
          (.region [⟨(some 51), (.val (.mov (.tmp 7))), none⟩,
            ⟨(some 52), (.val (.un .not (.tmp 51))), none⟩])
          (.cond (.tmp 52)
           (.seq
            (.region [⟨(some 4), (.val (.mov (.const (.int .i64 0)))), none⟩,
              ⟨(some 5), (.val (.mov (.const (.bool false)))), none⟩])
            .ret)
           .skip)))
        .skip)))))
   (.region [⟨(some 30), (.val (.mov (.tmp 8))), none⟩,
     ⟨(some 31), (.val (.bin .sub (.tmp 30) (.const (.int .i64 1)))), none⟩,
     ⟨(some 8), (.val (.mov (.tmp 31))), none⟩])))
def F16 : IFun :=
 ⟨54,
 (.seq
  (.region [⟨(some 4), (.val (.mov (.const (.int .i64 0)))), none⟩,
    ⟨(some 5), (.val (.mov (.const (.bool false)))), none⟩])
  (.seq
   (.seq
    (.region [⟨(some 9), (.val (.mov (.tmp 0))), none⟩,
      ⟨(some 10), (.val (.eq false (.prim 1) (.tmp 9) (.const (.int .i64 0)))), none⟩,
      ⟨(some 11), (.val (.mov (.tmp 10))), none⟩,
      ⟨(some 12), (.val (.mov (.tmp 1))), (some (11, false))⟩,
      ⟨(some 13), (.val (.eq false (.prim 1) (.tmp 12) (.const (.int .i64 0)))), (some (11, false))⟩,
      ⟨(some 14), (.val (.pick (.tmp 11) (.const (.bool true)) (.tmp 13))), none⟩])
    (.cond (.tmp 14)
     (.seq
      (.region [⟨(some 4), (.val (.mov (.const (.int .i64 0)))), none⟩,
        ⟨(some 5), (.val (.mov (.const (.bool true)))), none⟩])
      .ret)
     .skip))
   (.seq
    (.seq
     (.region [⟨(some 15), (.val (.mov (.tmp 1))), none⟩,
       ⟨(some 16), (.val (.eq false (.prim 1) (.tmp 15) (.const (.int .i64 (-9223372036854775808))))), none⟩])
     (.cond (.tmp 16)
      (.seq
       (.seq
        (.region [⟨(some 17), (.val (.mov (.tmp 0))), none⟩,
          ⟨(some 18), (.val (.eq false (.prim 1) (.tmp 17) (.const (.int .i64 1)))), none⟩])
        (.cond (.tmp 18)
         (.seq
          (.region [⟨(some 19), (.val (.mov (.tmp 1))), none⟩,
            ⟨(some 4), (.val (.mov (.tmp 19))), none⟩,
            ⟨(some 5), (.val (.mov (.const (.bool true)))), none⟩])
          .ret)
         .skip))
       (.seq
        (.region [⟨(some 4), (.val (.mov (.const (.int .i64 0)))), none⟩,
          ⟨(some 5), (.val (.mov (.const (.bool false)))), none⟩])
        .ret))
      .skip))
    (.seq
     (.seq
      (.region [⟨(some 20), (.val (.mov (.tmp 1))), none⟩,
        ⟨(some 21), (.val (.bin .lss (.tmp 20) (.const (.int .i64 0)))), none⟩])
      (.cond (.tmp 21)
       (.seq
        (.seq
         (.region [⟨(some 22), (.val (.mov (.tmp 0))), none⟩,
           ⟨(some 23), (.val (.eq false (.prim 1) (.tmp 22) (.const (.int .i64 (-9223372036854775808))))), none⟩])
         (.cond (.tmp 23)
          (.seq
           (.region [⟨(some 4), (.val (.mov (.const (.int .i64 0)))), none⟩,
             ⟨(some 5), (.val (.mov (.const (.bool false)))), none⟩])
           .ret)
          .skip))
        (.seq
         (.region [⟨(some 24), (.val (.mov (.tmp 0))), none⟩,
           ⟨(some 25), (.val (.un .neg (.tmp 24))), none⟩,
           ⟨(some 0), (.val (.mov (.tmp 25))), none⟩])
         (.region [⟨(some 26), (.val (.mov (.tmp 1))), none⟩,
           ⟨(some 27), (.val (.un .neg (.tmp 26))), none⟩,
           ⟨(some 1), (.val (.mov (.tmp 27))), none⟩])))
       .skip))
     (.seq
      (.region [⟨(some 6), (.val (.mov (.const (.int .i64 0)))), none⟩,
        ⟨(some 7), (.val (.mov (.const (.bool true)))), none⟩])
      (.seq
       (.seq
        (.region [⟨(some 8), (.val (.mov (.const (.int .i64 62)))), none⟩])
        (.block 0
         (.loop F16l0)))
       (.seq
        (.region [⟨(some 53), (.val (.mov (.tmp 6))), none⟩,
          ⟨(some 4), (.val (.mov (.tmp 53))), none⟩,
          ⟨(some 5), (.val (.mov (.const (.bool true)))), none⟩])
        .ret))))))),
 [.tmp 4, .tmp 5]⟩
theorem ok16 : cFun Try.prog G Try.f16 = some F16 := by kernel_rfl

/- balustrade/arith.Neg -/
def F17 : IFun :=
 ⟨8,
 (.seq
  (.region [⟨(some 2), (.val (.mov (.const (.int .i64 0)))), none⟩,
    ⟨(some 3), (.val (.mov (.const (.bool false)))), none⟩])
  (.seq
   (.region [⟨(some 4), (.val (.mov (.tmp 0))), none⟩,
     ⟨(some 5), (.call (.const (.func 8 [] [])) [(.const (.int .i64 0)), (.tmp 4)]), none⟩,
     ⟨(some 6), (.val (.extract (.tmp 5) 0)), none⟩,
     ⟨(some 7), (.val (.extract (.tmp 5) 1)), none⟩,
     ⟨(some 2), (.val (.mov (.tmp 6))), none⟩,
     ⟨(some 3), (.val (.mov (.tmp 7))), none⟩])
   .ret)),
 [.tmp 2, .tmp 3]⟩
theorem ok17 : cFun Try.prog G Try.f17 = some F17 := by kernel_rfl

end Go.Proofs.Ytpdpjimopfadfaa.Ev
