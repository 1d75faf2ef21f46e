/- The evaluator's code of the given functions, printed by program (EvPut); part 1. -/
import Derived.Test.YthlbifjgnhdonaaEvF0
namespace Go.Proofs.Ythlbifjgnhdonaa.Ev
open Go

/- balustrade/balustradelaw12.told -/
def F18 : IFun :=
 ⟨207,
 (.seq
  (.region [⟨(some 5), (.val (.box 46 (.tmp 2))), none⟩,
    ⟨(some 6), (.val (.mov (.const (.bool false)))), none⟩])
  (.seq
   (.seq
    (.region [⟨(some 22), (.val (.faddr 0 (.tmp 5))), none⟩,
      ⟨(some 23), (.val (.load none (.tmp 22))), none⟩])
    (.block 0
     (.seq
      (.region [⟨(some 25), (.val (.eq false (.prim 1) (.tmp 23) (.const (.int .i64 0)))), none⟩,
        ⟨(some 24), (.val (.mov (.tmp 25))), none⟩])
      (.cond (.tmp 24)
       (.seq
        (.region [⟨(some 27), (.val (.mov (.tmp 0))), none⟩,
          ⟨(some 28), (.val (.faddr 2 (.tmp 5))), none⟩,
          ⟨(some 29), (.val (.load none (.tmp 28))), none⟩,
          ⟨(some 30), (.call (.const (.func 12 [] [])) [(.tmp 27), (.tmp 29)]), none⟩,
          ⟨(some 26), (.val (.mov (.tmp 30))), none⟩,
          ⟨(some 31), (.val (.extract (.tmp 26) 0)), none⟩,
          ⟨(some 32), (.val (.extract (.tmp 26) 1)), none⟩,
          ⟨(some 7), (.val (.mov (.tmp 31))), none⟩,
          ⟨(some 8), (.val (.mov (.tmp 32))), none⟩])
        (.seq
         (.region [⟨(some 33), (.val (.mov (.tmp 1))), none⟩,
           ⟨(some 34), (.val (.faddr 2 (.tmp 5))), none⟩,
           ⟨(some 35), (.val (.load none (.tmp 34))), none⟩,
           ⟨(some 36), (.call (.const (.func 22 [] [])) [(.tmp 33), (.tmp 35)]), none⟩,
           ⟨(some 9), (.val (.mov (.tmp 36))), none⟩])
         (.seq
          (.region [⟨(some 37), (.val (.mov (.tmp 7))), none⟩,
            ⟨(some 38), (.val (.mov (.tmp 9))), none⟩,
            ⟨(some 39), (.val (.eq false (.prim 1) (.tmp 37) (.tmp 38))), none⟩,
            ⟨(some 40), (.val (.mov (.tmp 39))), none⟩,
            ⟨(some 41), (.val (.mov (.tmp 8))), (some (40, true))⟩,
            ⟨(some 42), (.val (.mov (.tmp 9))), (some (40, true))⟩,
            ⟨(some 43), (.val (.bin .gtr (.tmp 42) (.const (.int .i64 0)))), (some (40, true))⟩,
            ⟨(some 44), (.val (.eq false (.prim 0) (.tmp 41) (.tmp 43))), (some (40, true))⟩,
            ⟨(some 45), (.val (.pick (.tmp 40) (.tmp 44) (.const (.bool false)))), none⟩,
            ⟨(some 6), (.val (.mov (.tmp 45))), none⟩])
          .ret)))
       (.seq
        (.region [⟨(some 47), (.val (.eq false (.prim 1) (.tmp 23) (.const (.int .i64 1)))), none⟩,
          ⟨(some 46), (.val (.mov (.tmp 47))), none⟩])
        (.cond (.tmp 46)
         (.seq
          (.region [⟨(some 49), (.val (.mov (.tmp 0))), none⟩,
            ⟨(some 50), (.val (.faddr 4 (.tmp 5))), none⟩,
            ⟨(some 51), (.val (.load none (.tmp 50))), none⟩,
            ⟨(some 52), (.call (.const (.func 8 [] [])) [(.tmp 49), (.tmp 51)]), none⟩,
            ⟨(some 48), (.val (.mov (.tmp 52))), none⟩,
            ⟨(some 53), (.val (.extract (.tmp 48) 0)), none⟩,
            ⟨(some 54), (.val (.extract (.tmp 48) 1)), none⟩,
            ⟨(some 10), (.val (.mov (.tmp 53))), none⟩,
            ⟨(some 11), (.val (.mov (.tmp 54))), none⟩])
          (.seq
           (.region [⟨(some 55), (.val (.mov (.tmp 1))), none⟩,
             ⟨(some 56), (.val (.faddr 4 (.tmp 5))), none⟩,
             ⟨(some 57), (.val (.load none (.tmp 56))), none⟩,
             ⟨(some 58), (.val (.len (.tmp 57))), none⟩,
             ⟨(some 59), (.call (.const (.func 22 [] [])) [(.tmp 55), (.tmp 58)]), none⟩,
             ⟨(some 12), (.val (.mov (.tmp 59))), none⟩])
           (.seq
            (.seq
             (.region [⟨(some 60), (.val (.mov (.tmp 12))), none⟩,
               ⟨(some 61), (.val (.bin .gtr (.tmp 60) (.const (.int .i64 0)))), none⟩])
             (.cond (.tmp 61)
              (.draw [⟨(some 62), (.val (.mov (.tmp 1))), none⟩,
                ⟨(some 63), (.val (.nilck (.tmp 62))), none⟩,
                ⟨(some 64), (.val (.faddr 0 (.tmp 63))), none⟩,
                ⟨(some 65), (.val (.load none (.tmp 64))), none⟩,
                ⟨(some 66), (.val (.mov (.tmp 12))), none⟩,
                ⟨(some 67), (.val (.bin .sub (.tmp 66) (.const (.int .i64 1)))), none⟩,
                ⟨(some 68), (.val (.faddr 4 (.tmp 5))), none⟩,
                ⟨(some 69), (.val (.load none (.tmp 68))), none⟩,
                ⟨(some 70), (.call (.const (.func 23 [] [])) [(.tmp 69)]), none⟩,
                ⟨(some 71), (.val (.iaddr 1 (.tmp 65) (.tmp 67))), none⟩,
                ⟨none, (.val (.store 1 (.tmp 71) (.tmp 70))), none⟩] [(3, 8)])
              .skip))
            (.seq
             (.region [⟨(some 72), (.val (.mov (.tmp 10))), none⟩,
               ⟨(some 73), (.val (.mov (.tmp 12))), none⟩,
               ⟨(some 74), (.val (.eq false (.prim 1) (.tmp 72) (.tmp 73))), none⟩,
               ⟨(some 75), (.val (.mov (.tmp 74))), none⟩,
               ⟨(some 76), (.val (.mov (.tmp 11))), (some (75, true))⟩,
               ⟨(some 77), (.val (.mov (.tmp 12))), (some (75, true))⟩,
               ⟨(some 78), (.val (.bin .gtr (.tmp 77) (.const (.int .i64 0)))), (some (75, true))⟩,
               ⟨(some 79), (.val (.eq false (.prim 0) (.tmp 76) (.tmp 78))), (some (75, true))⟩,
               ⟨(some 80), (.val (.pick (.tmp 75) (.tmp 79) (.const (.bool false)))), none⟩,
               ⟨(some 6), (.val (.mov (.tmp 80))), none⟩])
             .ret))))
         (.seq
          (.region [⟨(some 82), (.val (.eq false (.prim 1) (.tmp 23) (.const (.int .i64 2)))), none⟩,
            ⟨(some 81), (.val (.mov (.tmp 82))), none⟩])
          (.cond (.tmp 81)
           (.seq
            (.region [⟨(some 84), (.val (.mov (.tmp 0))), none⟩,
              ⟨(some 85), (.val (.faddr 1 (.tmp 5))), none⟩,
              ⟨(some 86), (.val (.load none (.tmp 85))), none⟩,
              ⟨(some 87), (.val (.faddr 2 (.tmp 5))), none⟩,
              ⟨(some 88), (.val (.load none (.tmp 87))), none⟩,
              ⟨(some 89), (.call (.const (.func 14 [] [])) [(.tmp 84), (.tmp 86), (.tmp 88)]), none⟩,
              ⟨(some 83), (.val (.mov (.tmp 89))), none⟩,
              ⟨(some 90), (.val (.extract (.tmp 83) 0)), none⟩,
              ⟨(some 91), (.val (.extract (.tmp 83) 1)), none⟩,
              ⟨(some 13), (.val (.mov (.tmp 90))), none⟩,
              ⟨(some 14), (.val (.mov (.tmp 91))), none⟩])
            (.seq
             (.draw [⟨(some 92), (.val (.mov (.tmp 1))), none⟩,
               ⟨(some 93), (.val (.nilck (.tmp 92))), none⟩,
               ⟨(some 94), (.val (.load (some 2) (.tmp 93))), none⟩,
               ⟨(some 95), (.val (.faddr 1 (.tmp 5))), none⟩,
               ⟨(some 96), (.val (.load none (.tmp 95))), none⟩,
               ⟨(some 97), (.val (.faddr 2 (.tmp 5))), none⟩,
               ⟨(some 98), (.val (.load none (.tmp 97))), none⟩,
               ⟨(some 99), (.call (.const (.func 24 [] [])) [(.tmp 94), (.tmp 96), (.tmp 98)]), none⟩,
               ⟨(some 15), (.val (.mov (.tmp 99))), none⟩] [])
             (.seq
              (.draw [⟨(some 100), (.val (.mov (.tmp 14))), none⟩,
                ⟨(some 101), (.val (.mov (.tmp 15))), none⟩,
                ⟨(some 102), (.val (.eq false (.prim 0) (.tmp 100) (.tmp 101))), none⟩,
                ⟨(some 103), (.val (.mov (.tmp 102))), none⟩,
                ⟨(some 104), (.val (.mov (.tmp 15))), (some (103, true))⟩,
                ⟨(some 105), (.val (.un .not (.tmp 104))), (some (103, true))⟩,
                ⟨(some 106), (.val (.mov (.tmp 105))), (some (103, true))⟩,
                ⟨(some 107), (.val (.mov (.tmp 13))), (some (106, true))⟩,
                ⟨(some 108), (.val (.eq false (.prim 1) (.tmp 107) (.const (.int .i64 0)))), (some (106, true))⟩,
                ⟨(some 109), (.val (.pick (.tmp 106) (.tmp 108) (.const (.bool false)))), (some (103, true))⟩,
                ⟨(some 110), (.val (.mov (.tmp 109))), (some (103, true))⟩,
                ⟨(some 111), (.val (.mov (.tmp 15))), (some (110, false))⟩,
                ⟨(some 112), (.val (.mov (.tmp 111))), (some (110, false))⟩,
                ⟨(some 113), (.val (.mov (.tmp 13))), (some (112, true))⟩,
                ⟨(some 114), (.val (.mov (.tmp 1))), (some (112, true))⟩,
                ⟨(some 115), (.val (.nilck (.tmp 114))), (some (112, true))⟩,
                ⟨(some 116), (.val (.faddr 0 (.tmp 115))), (some (112, true))⟩,
                ⟨(some 117), (.val (.load none (.tmp 116))), (some (112, true))⟩,
                ⟨(some 118), (.val (.faddr 1 (.tmp 5))), (some (112, true))⟩,
                ⟨(some 119), (.val (.load none (.tmp 118))), (some (112, true))⟩,
                ⟨(some 120), (.val (.bin .sub (.tmp 119) (.const (.int .i64 1)))), (some (112, true))⟩,
                ⟨(some 121), (.val (.iaddr 1 (.tmp 117) (.tmp 120))), (some (112, true))⟩,
                ⟨(some 122), (.val (.load none (.tmp 121))), (some (112, true))⟩,
                ⟨(some 123), (.val (.faddr 2 (.tmp 5))), (some (112, true))⟩,
                ⟨(some 124), (.val (.load none (.tmp 123))), (some (112, true))⟩,
                ⟨(some 125), (.val (.iaddr 1 (.tmp 122) (.tmp 124))), (some (112, true))⟩,
                ⟨(some 126), (.val (.load none (.tmp 125))), (some (112, true))⟩,
                ⟨(some 127), (.val (.eq false (.prim 1) (.tmp 113) (.tmp 126))), (some (112, true))⟩,
                ⟨(some 128), (.val (.pick (.tmp 112) (.tmp 127) (.const (.bool false)))), (some (110, false))⟩,
                ⟨(some 129), (.val (.pick (.tmp 110) (.const (.bool true)) (.tmp 128))), (some (103, true))⟩,
                ⟨(some 130), (.val (.pick (.tmp 103) (.tmp 129) (.const (.bool false)))), none⟩,
                ⟨(some 6), (.val (.mov (.tmp 130))), none⟩] [])
              .ret)))
           (.seq
            (.region [⟨(some 132), (.val (.eq false (.prim 1) (.tmp 23) (.const (.int .i64 3)))), none⟩,
              ⟨(some 131), (.val (.mov (.tmp 132))), none⟩])
            (.cond (.tmp 131)
             (.seq
              (.draw [⟨(some 133), (.val (.mov (.tmp 1))), none⟩,
                ⟨(some 134), (.val (.nilck (.tmp 133))), none⟩,
                ⟨(some 135), (.val (.load (some 2) (.tmp 134))), none⟩,
                ⟨(some 136), (.val (.faddr 1 (.tmp 5))), none⟩,
                ⟨(some 137), (.val (.load none (.tmp 136))), none⟩,
                ⟨(some 138), (.val (.faddr 2 (.tmp 5))), none⟩,
                ⟨(some 139), (.val (.load none (.tmp 138))), none⟩,
                ⟨(some 140), (.call (.const (.func 24 [] [])) [(.tmp 135), (.tmp 137), (.tmp 139)]), none⟩,
                ⟨(some 16), (.val (.mov (.tmp 140))), none⟩] [])
              (.seq
               (.seq
                (.region [⟨(some 141), (.val (.mov (.tmp 16))), none⟩])
                (.cond (.tmp 141)
                 (.draw [⟨(some 142), (.val (.mov (.tmp 1))), none⟩,
                   ⟨(some 143), (.val (.nilck (.tmp 142))), none⟩,
                   ⟨(some 144), (.val (.faddr 0 (.tmp 143))), none⟩,
                   ⟨(some 145), (.val (.load none (.tmp 144))), none⟩,
                   ⟨(some 146), (.val (.faddr 1 (.tmp 5))), none⟩,
                   ⟨(some 147), (.val (.load none (.tmp 146))), none⟩,
                   ⟨(some 148), (.val (.bin .sub (.tmp 147) (.const (.int .i64 1)))), none⟩,
                   ⟨(some 149), (.val (.iaddr 1 (.tmp 145) (.tmp 148))), none⟩,
                   ⟨(some 150), (.val (.load none (.tmp 149))), none⟩,
                   ⟨(some 151), (.val (.faddr 2 (.tmp 5))), none⟩,
                   ⟨(some 152), (.val (.load none (.tmp 151))), none⟩,
                   ⟨(some 153), (.val (.faddr 3 (.tmp 5))), none⟩,
                   ⟨(some 154), (.val (.load none (.tmp 153))), none⟩,
                   ⟨(some 155), (.val (.iaddr 1 (.tmp 150) (.tmp 152))), none⟩,
                   ⟨none, (.val (.store 1 (.tmp 155) (.tmp 154))), none⟩] [])
                 .skip))
               (.seq
                (.region [⟨(some 156), (.val (.mov (.tmp 0))), none⟩,
                  ⟨(some 157), (.val (.faddr 1 (.tmp 5))), none⟩,
                  ⟨(some 158), (.val (.load none (.tmp 157))), none⟩,
                  ⟨(some 159), (.val (.faddr 2 (.tmp 5))), none⟩,
                  ⟨(some 160), (.val (.load none (.tmp 159))), none⟩,
                  ⟨(some 161), (.val (.faddr 3 (.tmp 5))), none⟩,
                  ⟨(some 162), (.val (.load none (.tmp 161))), none⟩,
                  ⟨(some 163), (.call (.const (.func 10 [] [])) [(.tmp 156), (.tmp 158), (.tmp 160), (.tmp 162)]), none⟩,
                  ⟨(some 164), (.val (.mov (.tmp 16))), none⟩,
                  ⟨(some 165), (.val (.eq false (.prim 0) (.tmp 163) (.tmp 164))), none⟩,
                  ⟨(some 6), (.val (.mov (.tmp 165))), none⟩])
                .ret)))
             .skip))))))))))
   (.seq
    (.region [⟨(some 167), (.val (.mov (.tmp 0))), none⟩,
      ⟨(some 168), (.val (.faddr 1 (.tmp 5))), none⟩,
      ⟨(some 169), (.val (.load none (.tmp 168))), none⟩,
      ⟨(some 170), (.call (.const (.func 13 [] [])) [(.tmp 167), (.tmp 169)]), none⟩,
      ⟨(some 166), (.val (.mov (.tmp 170))), none⟩,
      ⟨(some 171), (.val (.extract (.tmp 166) 0)), none⟩,
      ⟨(some 172), (.val (.extract (.tmp 166) 1)), none⟩,
      ⟨(some 17), (.val (.mov (.tmp 171))), none⟩,
      ⟨(some 18), (.val (.mov (.tmp 172))), none⟩])
    (.seq
     (.draw [⟨(some 173), (.val (.mov (.tmp 1))), none⟩,
       ⟨(some 174), (.val (.nilck (.tmp 173))), none⟩,
       ⟨(some 175), (.val (.load (some 2) (.tmp 174))), none⟩,
       ⟨(some 176), (.val (.faddr 1 (.tmp 5))), none⟩,
       ⟨(some 177), (.val (.load none (.tmp 176))), none⟩,
       ⟨(some 178), (.call (.const (.func 25 [] [])) [(.tmp 175), (.tmp 177)]), none⟩,
       ⟨(some 19), (.val (.mov (.tmp 178))), none⟩] [])
     (.seq
      (.region [⟨(some 180), (.val (.mov (.tmp 0))), none⟩,
        ⟨(some 181), (.val (.faddr 1 (.tmp 5))), none⟩,
        ⟨(some 182), (.val (.load none (.tmp 181))), none⟩,
        ⟨(some 183), (.call (.const (.func 9 [] [])) [(.tmp 180), (.tmp 182)]), none⟩,
        ⟨(some 179), (.val (.mov (.tmp 183))), none⟩,
        ⟨(some 184), (.val (.extract (.tmp 179) 0)), none⟩,
        ⟨(some 185), (.val (.extract (.tmp 179) 1)), none⟩,
        ⟨(some 20), (.val (.mov (.tmp 184))), none⟩,
        ⟨(some 21), (.val (.mov (.tmp 185))), none⟩])
      (.seq
       (.region [⟨(some 186), (.val (.mov (.tmp 18))), none⟩,
         ⟨(some 187), (.val (.mov (.tmp 19))), none⟩,
         ⟨(some 188), (.val (.bin .geq (.tmp 187) (.const (.int .i64 0)))), none⟩,
         ⟨(some 189), (.val (.eq false (.prim 0) (.tmp 186) (.tmp 188))), none⟩,
         ⟨(some 190), (.val (.mov (.tmp 189))), none⟩,
         ⟨(some 191), (.val (.mov (.tmp 17))), (some (190, true))⟩,
         ⟨(some 192), (.val (.mov (.tmp 19))), (some (190, true))⟩,
         ⟨(some 193), (.val (.max [(.tmp 192), (.const (.int .i64 0))])), (some (190, true))⟩,
         ⟨(some 194), (.val (.eq false (.prim 1) (.tmp 191) (.tmp 193))), (some (190, true))⟩,
         ⟨(some 195), (.val (.pick (.tmp 190) (.tmp 194) (.const (.bool false)))), none⟩,
         ⟨(some 196), (.val (.mov (.tmp 195))), none⟩,
         ⟨(some 197), (.val (.mov (.tmp 21))), (some (196, true))⟩,
         ⟨(some 198), (.val (.mov (.tmp 18))), (some (196, true))⟩,
         ⟨(some 199), (.val (.eq false (.prim 0) (.tmp 197) (.tmp 198))), (some (196, true))⟩,
         ⟨(some 200), (.val (.pick (.tmp 196) (.tmp 199) (.const (.bool false)))), none⟩,
         ⟨(some 201), (.val (.mov (.tmp 200))), none⟩,
         ⟨(some 202), (.val (.mov (.tmp 20))), (some (201, true))⟩,
         ⟨(some 203), (.val (.len (.tmp 202))), (some (201, true))⟩,
         ⟨(some 204), (.val (.mov (.tmp 17))), (some (201, true))⟩,
         ⟨(some 205), (.val (.eq false (.prim 1) (.tmp 203) (.tmp 204))), (some (201, true))⟩,
         ⟨(some 206), (.val (.pick (.tmp 201) (.tmp 205) (.const (.bool false)))), none⟩,
         ⟨(some 6), (.val (.mov (.tmp 206))), none⟩])
       .ret)))))),
 [.tmp 6]⟩
theorem ok18 : cFun Try.prog G Try.f18 = some F18 := by kernel_rfl

/- balustrade/balustraderef12.Used -/
def F19l0 : ICode :=
 (.seq
  (.seq
   (.region [⟨(some 5), (.val (.mov (.tmp 4))), none⟩,
     ⟨(some 6), (.val (.faddr 0 (.tmp 1))), none⟩,
     ⟨(some 7), (.val (.load none (.tmp 6))), none⟩,
     ⟨(some 8), (.val (.len (.tmp 7))), none⟩,
     ⟨(some 9), (.val (.bin .lss (.tmp 5) (.tmp 8))), none⟩])
   (.cond (.tmp 9)
    .skip
    (.exit 0)))
  (.seq
   (.block 1
    (.region [⟨(some 12), (.val (.mov (.tmp 3))), none⟩,
      ⟨(some 13), (.val (.bin .add (.tmp 12) (.const (.int .i64 1)))), none⟩,
      ⟨(some 14), (.val (.faddr 0 (.tmp 1))), none⟩,
      ⟨(some 15), (.val (.load none (.tmp 14))), none⟩,
      ⟨(some 16), (.val (.mov (.tmp 4))), none⟩,
      ⟨(some 17), (.val (.iaddr 1 (.tmp 15) (.tmp 16))), none⟩,
      ⟨(some 18), (.val (.load none (.tmp 17))), none⟩,
      ⟨(some 19), (.val (.len (.tmp 18))), none⟩,
      ⟨(some 20), (.val (.bin .add (.tmp 13) (.tmp 19))), none⟩,
      ⟨(some 3), (.val (.mov (.tmp 20))), none⟩]))
   (.region [⟨(some 10), (.val (.mov (.tmp 4))), none⟩,
     ⟨(some 11), (.val (.bin .add (.tmp 10) (.const (.int .i64 1)))), none⟩,
     ⟨(some 4), (.val (.mov (.tmp 11))), none⟩])))
def F19 : IFun :=
 ⟨22,
 (.seq
  (.region [⟨(some 1), (.val (.box 44 (.tmp 0))), none⟩,
    ⟨(some 2), (.val (.mov (.const (.int .i64 0)))), none⟩])
  (.seq
   (.region [⟨(some 3), (.val (.mov (.const (.int .i64 0)))), none⟩])
   (.seq
    (.seq
     (.region [⟨(some 4), (.val (.mov (.const (.int .i64 0)))), none⟩])
     (.block 0
      (.loop F19l0)))
    (.seq
     (.region [⟨(some 21), (.val (.mov (.tmp 3))), none⟩,
       ⟨(some 2), (.val (.mov (.tmp 21))), none⟩])
     .ret)))),
 [.tmp 2]⟩
theorem ok19 : cFun Try.prog G Try.f19 = some F19 := by kernel_rfl

/- (*balustrade/heap.Heap).of -/
def F20 : IFun :=
 ⟨29,
 (.seq
  (.region [⟨(some 4), (.val (.mov (.const .nilslice))), none⟩,
    ⟨(some 5), (.val (.mov (.const (.bool false)))), none⟩])
  (.seq
   (.seq
    (.region [⟨(some 6), (.val (.mov (.tmp 0))), none⟩,
      ⟨(some 7), (.val (.eq false (.prim 3) (.tmp 6) (.const .nilptr))), none⟩,
      ⟨(some 8), (.val (.mov (.tmp 7))), none⟩,
      ⟨(some 9), (.val (.mov (.tmp 1))), (some (8, false))⟩,
      ⟨(some 10), (.val (.bin .lss (.tmp 9) (.const (.int .i64 1)))), (some (8, false))⟩,
      ⟨(some 11), (.val (.pick (.tmp 8) (.const (.bool true)) (.tmp 10))), none⟩,
      ⟨(some 12), (.val (.mov (.tmp 11))), none⟩,
      ⟨(some 13), (.val (.mov (.tmp 1))), (some (12, false))⟩,
      ⟨(some 14), (.val (.mov (.tmp 0))), (some (12, false))⟩,
      ⟨(some 15), (.val (.nilck (.tmp 14))), (some (12, false))⟩,
      ⟨(some 16), (.val (.faddr 1 (.tmp 15))), (some (12, false))⟩,
      ⟨(some 17), (.val (.load none (.tmp 16))), (some (12, false))⟩,
      ⟨(some 18), (.val (.len (.tmp 17))), (some (12, false))⟩,
      ⟨(some 19), (.val (.bin .gtr (.tmp 13) (.tmp 18))), (some (12, false))⟩,
      ⟨(some 20), (.val (.pick (.tmp 12) (.const (.bool true)) (.tmp 19))), none⟩])
    (.cond (.tmp 20)
     (.seq
      (.region [⟨(some 4), (.val (.mov (.const .nilslice))), none⟩,
        ⟨(some 5), (.val (.mov (.const (.bool false)))), none⟩])
      .ret)
     .skip))
   (.seq
    (.region [⟨(some 21), (.val (.mov (.tmp 0))), none⟩,
      ⟨(some 22), (.val (.nilck (.tmp 21))), none⟩,
      ⟨(some 23), (.val (.faddr 1 (.tmp 22))), none⟩,
      ⟨(some 24), (.val (.load none (.tmp 23))), none⟩,
      ⟨(some 25), (.val (.mov (.tmp 1))), none⟩,
      ⟨(some 26), (.val (.bin .sub (.tmp 25) (.const (.int .i64 1)))), none⟩,
      ⟨(some 27), (.val (.iaddr 1 (.tmp 24) (.tmp 26))), none⟩,
      ⟨(some 28), (.val (.load none (.tmp 27))), none⟩,
      ⟨(some 4), (.val (.mov (.tmp 28))), none⟩,
      ⟨(some 5), (.val (.mov (.const (.bool true)))), none⟩])
    .ret))),
 [.tmp 4, .tmp 5]⟩
theorem ok20 : cFun Try.prog G Try.f20 = some F20 := by kernel_rfl

/- slices.Clone[[]int,int] -/
def F21 : IFun :=
 ⟨8,
 (.seq
  (.region [⟨(some 2), (.val (.mov (.const .nilslice))), none⟩])
  (.seq
   (.seq
    (.region [⟨(some 3), (.val (.mov (.tmp 0))), none⟩,
      ⟨(some 4), (.val (.eq false (.prim 4) (.tmp 3) (.const .nilslice))), none⟩])
    (.cond (.tmp 4)
     (.seq
      (.region [⟨(some 2), (.val (.mov (.const .nilslice))), none⟩])
      .ret)
     .skip))
   (.seq
    (.region [⟨(some 5), (.val (.bslice 3 1 0 [(.int .i64 0)] [])), none⟩,
      ⟨(some 6), (.val (.mov (.tmp 0))), none⟩,
      ⟨(some 7), (.val (.append 3 1 8 (.tmp 5) (.tmp 6))), none⟩,
      ⟨(some 2), (.val (.mov (.tmp 7))), none⟩])
    .ret))),
 [.tmp 2]⟩
theorem ok21 : cFun Try.prog G Try.f21 = some F21 := by kernel_rfl

/- balustrade/balustraderef12.Make -/
def F22 : IFun :=
 ⟨36,
 (.seq
  (.region [⟨(some 4), (.val (.mov (.const (.int .i64 0)))), none⟩])
  (.seq
   (.seq
    (.draw [⟨(some 5), (.val (.mov (.tmp 1))), none⟩,
      ⟨(some 6), (.val (.bin .lss (.tmp 5) (.const (.int .i64 0)))), none⟩,
      ⟨(some 7), (.val (.mov (.tmp 6))), none⟩,
      ⟨(some 8), (.val (.mov (.tmp 1))), (some (7, false))⟩,
      ⟨(some 9), (.val (.mov (.tmp 0))), (some (7, false))⟩,
      ⟨(some 10), (.val (.nilck (.tmp 9))), (some (7, false))⟩,
      ⟨(some 11), (.val (.faddr 1 (.tmp 10))), (some (7, false))⟩,
      ⟨(some 12), (.val (.load none (.tmp 11))), (some (7, false))⟩,
      ⟨(some 13), (.val (.mov (.tmp 0))), (some (7, false))⟩,
      ⟨(some 14), (.val (.nilck (.tmp 13))), (some (7, false))⟩,
      ⟨(some 15), (.val (.load (some 2) (.tmp 14))), (some (7, false))⟩,
      ⟨(some 16), (.call (.const (.func 19 [] [])) [(.tmp 15)]), (some (7, false))⟩,
      ⟨(some 17), (.val (.bin .sub (.tmp 12) (.tmp 16))), (some (7, false))⟩,
      ⟨(some 18), (.val (.bin .geq (.tmp 8) (.tmp 17))), (some (7, false))⟩,
      ⟨(some 19), (.val (.pick (.tmp 7) (.const (.bool true)) (.tmp 18))), none⟩] [(7, 11)])
    (.cond (.tmp 19)
     (.seq
      (.region [⟨(some 4), (.val (.mov (.const (.int .i64 0)))), none⟩])
      .ret)
     .skip))
   (.seq
    (.draw [⟨(some 20), (.val (.mov (.tmp 0))), none⟩,
      ⟨(some 21), (.val (.mov (.tmp 0))), none⟩,
      ⟨(some 22), (.val (.nilck (.tmp 21))), none⟩,
      ⟨(some 23), (.val (.faddr 0 (.tmp 22))), none⟩,
      ⟨(some 24), (.val (.load none (.tmp 23))), none⟩,
      ⟨(some 25), (.val (.mov (.tmp 1))), none⟩,
      ⟨(some 26), (.val (.mkslice 3 1 [(.int .i64 0)] (.tmp 25) (.tmp 25))), none⟩,
      ⟨(some 27), (.val (.bslice 27 1 1 [.nilslice] [(0, (.tmp 26))])), none⟩,
      ⟨(some 28), (.val (.append 27 1 24 (.tmp 24) (.tmp 27))), none⟩,
      ⟨(some 29), (.val (.nilck (.tmp 20))), none⟩,
      ⟨(some 30), (.val (.faddr 0 (.tmp 29))), none⟩,
      ⟨none, (.val (.store 1 (.tmp 30) (.tmp 28))), none⟩] [])
    (.seq
     (.region [⟨(some 31), (.val (.mov (.tmp 0))), none⟩,
       ⟨(some 32), (.val (.nilck (.tmp 31))), none⟩,
       ⟨(some 33), (.val (.faddr 0 (.tmp 32))), none⟩,
       ⟨(some 34), (.val (.load none (.tmp 33))), none⟩,
       ⟨(some 35), (.val (.len (.tmp 34))), none⟩,
       ⟨(some 4), (.val (.mov (.tmp 35))), none⟩])
     .ret)))),
 [.tmp 4]⟩
theorem ok22 : cFun Try.prog G Try.f22 = some F22 := by kernel_rfl

/- balustrade/balustradebase.Ints -/
def F23 : IFun :=
 ⟨6,
 (.seq
  (.region [⟨(some 2), (.val (.mov (.const .nilslice))), none⟩])
  (.seq
   (.region [⟨(some 3), (.val (.bslice 3 1 0 [(.int .i64 0)] [])), none⟩,
     ⟨(some 4), (.val (.mov (.tmp 0))), none⟩,
     ⟨(some 5), (.val (.append 3 1 8 (.tmp 3) (.tmp 4))), none⟩,
     ⟨(some 2), (.val (.mov (.tmp 5))), none⟩])
   .ret)),
 [.tmp 2]⟩
theorem ok23 : cFun Try.prog G Try.f23 = some F23 := by kernel_rfl

/- balustrade/balustraderef12.Has -/
def F24 : IFun :=
 ⟨16,
 (.seq
  (.region [⟨(some 3), (.val (.box 44 (.tmp 0))), none⟩,
    ⟨(some 6), (.val (.mov (.const (.bool false)))), none⟩])
  (.seq
   (.region [⟨(some 7), (.val (.mov (.tmp 2))), none⟩,
     ⟨(some 8), (.val (.bin .geq (.tmp 7) (.const (.int .i64 0)))), none⟩,
     ⟨(some 9), (.val (.mov (.tmp 8))), none⟩,
     ⟨(some 10), (.val (.mov (.tmp 2))), (some (9, true))⟩,
     ⟨(some 11), (.val (.load (some 2) (.tmp 3))), (some (9, true))⟩,
     ⟨(some 12), (.val (.mov (.tmp 1))), (some (9, true))⟩,
     ⟨(some 13), (.call (.const (.func 25 [] [])) [(.tmp 11), (.tmp 12)]), (some (9, true))⟩,
     ⟨(some 14), (.val (.bin .lss (.tmp 10) (.tmp 13))), (some (9, true))⟩,
     ⟨(some 15), (.val (.pick (.tmp 9) (.tmp 14) (.const (.bool false)))), none⟩,
     ⟨(some 6), (.val (.mov (.tmp 15))), none⟩])
   .ret)),
 [.tmp 6]⟩
theorem ok24 : cFun Try.prog G Try.f24 = some F24 := by kernel_rfl

/- balustrade/balustraderef12.Len -/
def F25 : IFun :=
 ⟨21,
 (.seq
  (.region [⟨(some 2), (.val (.box 44 (.tmp 0))), none⟩,
    ⟨(some 4), (.val (.mov (.const (.int .i64 0)))), none⟩])
  (.seq
   (.seq
    (.region [⟨(some 5), (.val (.mov (.tmp 1))), none⟩,
      ⟨(some 6), (.val (.bin .lss (.tmp 5) (.const (.int .i64 1)))), none⟩,
      ⟨(some 7), (.val (.mov (.tmp 6))), none⟩,
      ⟨(some 8), (.val (.mov (.tmp 1))), (some (7, false))⟩,
      ⟨(some 9), (.val (.faddr 0 (.tmp 2))), (some (7, false))⟩,
      ⟨(some 10), (.val (.load none (.tmp 9))), (some (7, false))⟩,
      ⟨(some 11), (.val (.len (.tmp 10))), (some (7, false))⟩,
      ⟨(some 12), (.val (.bin .gtr (.tmp 8) (.tmp 11))), (some (7, false))⟩,
      ⟨(some 13), (.val (.pick (.tmp 7) (.const (.bool true)) (.tmp 12))), none⟩])
    (.cond (.tmp 13)
     (.seq
      (.region [⟨(some 4), (.val (.mov (.const (.int .i64 (-1))))), none⟩])
      .ret)
     .skip))
   (.seq
    (.region [⟨(some 14), (.val (.faddr 0 (.tmp 2))), none⟩,
      ⟨(some 15), (.val (.load none (.tmp 14))), none⟩,
      ⟨(some 16), (.val (.mov (.tmp 1))), none⟩,
      ⟨(some 17), (.val (.bin .sub (.tmp 16) (.const (.int .i64 1)))), none⟩,
      ⟨(some 18), (.val (.iaddr 1 (.tmp 15) (.tmp 17))), none⟩,
      ⟨(some 19), (.val (.load none (.tmp 18))), none⟩,
      ⟨(some 20), (.val (.len (.tmp 19))), none⟩,
      ⟨(some 4), (.val (.mov (.tmp 20))), none⟩])
    .ret))),
 [.tmp 4]⟩
theorem ok25 : cFun Try.prog G Try.f25 = some F25 := by kernel_rfl

end Go.Proofs.Ythlbifjgnhdonaa.Ev
