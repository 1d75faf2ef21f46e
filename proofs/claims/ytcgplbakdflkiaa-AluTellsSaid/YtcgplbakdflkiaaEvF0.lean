/- The evaluator's code of the given functions, printed by program (EvPut); part 0. -/
import Derived.KernelRfl
import Derived.Test.YtcgplbakdflkiaaChecked
import Derived.Test.YtcgplbakdflkiaaEvCode
namespace Go.Proofs.Ytcgplbakdflkiaa.Ev
open Go
def G : List Nat := []

/- balustrade/balustradelaw13.AluFits -/
def F3 : IFun :=
 ⟨178,
 (.seq
  (.region [⟨(some 6), (.val (.mov (.const (.bool false)))), none⟩])
  (.seq
   (.region [⟨(some 37), (.val (.mov (.tmp 0))), none⟩,
     ⟨(some 38), (.call (.const (.func 6 [] [])) [(.tmp 37)]), none⟩,
     ⟨(some 39), (.val (.mov (.tmp 1))), none⟩,
     ⟨(some 40), (.call (.const (.func 6 [] [])) [(.tmp 39)]), none⟩,
     ⟨(some 7), (.val (.alloc 23 [(.int .i64 0), (.int .i64 0)])), none⟩,
     ⟨(some 8), (.val (.alloc 23 [(.int .i64 0), (.int .i64 0)])), none⟩,
     ⟨none, (.val (.store 2 (.tmp 7) (.tmp 38))), none⟩,
     ⟨none, (.val (.store 2 (.tmp 8) (.tmp 40))), none⟩])
   (.seq
    (.region [⟨(some 41), (.val (.mov (.tmp 2))), none⟩,
      ⟨(some 42), (.val (.conv (.int .i64) (.tmp 41))), none⟩,
      ⟨(some 43), (.val (.bin .rem (.tmp 42) (.const (.int .i64 14)))), none⟩,
      ⟨(some 44), (.val (.bin .add (.const (.int .i64 3)) (.tmp 43))), none⟩,
      ⟨(some 9), (.val (.mov (.tmp 44))), none⟩])
    (.seq
     (.region [⟨(some 46), (.val (.mov (.tmp 9))), none⟩,
       ⟨(some 47), (.val (.load (some 2) (.tmp 7))), none⟩,
       ⟨(some 48), (.val (.load (some 2) (.tmp 8))), none⟩,
       ⟨(some 49), (.call (.const (.func 7 [] [])) [(.tmp 46), (.tmp 47), (.tmp 48)]), none⟩,
       ⟨(some 45), (.val (.mov (.tmp 49))), none⟩,
       ⟨(some 50), (.val (.extract (.tmp 45) 0)), none⟩,
       ⟨(some 51), (.val (.extract (.tmp 45) 1)), none⟩,
       ⟨(some 52), (.val (.extract (.tmp 45) 2)), none⟩,
       ⟨(some 10), (.val (.alloc 23 [(.int .i64 0), (.int .i64 0)])), none⟩,
       ⟨none, (.val (.store 2 (.tmp 10) (.tmp 50))), none⟩,
       ⟨(some 11), (.val (.mov (.tmp 51))), none⟩,
       ⟨(some 12), (.val (.mov (.tmp 52))), none⟩])
     (.seq
      (.seq
       (.region [⟨(some 53), (.val (.mov (.tmp 12))), none⟩,
         ⟨(some 54), (.val (.un .not (.tmp 53))), none⟩,
         ⟨(some 55), (.val (.mov (.tmp 54))), none⟩,
         ⟨(some 56), (.val (.mov (.tmp 11))), (some (55, false))⟩,
         ⟨(some 57), (.val (.eq false (.prim 1) (.tmp 56) (.const (.int .i64 0)))), (some (55, false))⟩,
         ⟨(some 58), (.val (.load (some 2) (.tmp 10))), (some (55, false))⟩,
         ⟨(some 59), (.call (.const (.func 8 [] [])) [(.tmp 58)]), (some (55, false))⟩,
         ⟨(some 60), (.val (.eq true (.prim 0) (.tmp 57) (.tmp 59))), (some (55, false))⟩,
         ⟨(some 61), (.val (.pick (.tmp 55) (.const (.bool true)) (.tmp 60))), none⟩,
         ⟨(some 62), (.val (.mov (.tmp 61))), none⟩,
         ⟨(some 63), (.val (.mov (.tmp 11))), (some (62, false))⟩,
         ⟨(some 64), (.val (.eq true (.prim 1) (.tmp 63) (.const (.int .i64 0)))), (some (62, false))⟩,
         ⟨(some 65), (.val (.mov (.tmp 64))), (some (62, false))⟩,
         ⟨(some 66), (.val (.load (some 2) (.tmp 10))), (some (65, true))⟩,
         ⟨(some 67), (.val (.build [(.int .i64 0), (.int .i64 0)] [])), (some (65, true))⟩,
         ⟨(some 68), (.val (.eq true (.agg [(none, 0, (.prim 1)), (none, 1, (.prim 1))]) (.tmp 66) (.tmp 67))), (some (65, true))⟩,
         ⟨(some 69), (.val (.pick (.tmp 65) (.tmp 68) (.const (.bool false)))), (some (62, false))⟩,
         ⟨(some 70), (.val (.pick (.tmp 62) (.const (.bool true)) (.tmp 69))), none⟩])
       (.cond (.tmp 70)
        (.seq
         (.region [⟨(some 6), (.val (.mov (.const (.bool false)))), none⟩])
         .ret)
        .skip))
      (.seq
       (.region [⟨(some 72), (.val (.load (some 2) (.tmp 7))), none⟩,
         ⟨(some 73), (.val (.load (some 2) (.tmp 8))), none⟩,
         ⟨(some 74), (.call (.const (.func 7 [] [])) [(.const (.int .i64 9)), (.tmp 72), (.tmp 73)]), none⟩,
         ⟨(some 71), (.val (.mov (.tmp 74))), none⟩,
         ⟨(some 75), (.val (.extract (.tmp 71) 0)), none⟩,
         ⟨(some 76), (.val (.extract (.tmp 71) 1)), none⟩,
         ⟨(some 77), (.val (.extract (.tmp 71) 2)), none⟩,
         ⟨(some 13), (.val (.alloc 23 [(.int .i64 0), (.int .i64 0)])), none⟩,
         ⟨none, (.val (.store 2 (.tmp 13) (.tmp 75))), none⟩,
         ⟨(some 14), (.val (.mov (.tmp 76))), none⟩,
         ⟨(some 15), (.val (.mov (.tmp 77))), none⟩])
       (.seq
        (.region [⟨(some 79), (.val (.load (some 2) (.tmp 7))), none⟩,
          ⟨(some 80), (.val (.load (some 2) (.tmp 8))), none⟩,
          ⟨(some 81), (.call (.const (.func 7 [] [])) [(.const (.int .i64 11)), (.tmp 79), (.tmp 80)]), none⟩,
          ⟨(some 78), (.val (.mov (.tmp 81))), none⟩,
          ⟨(some 82), (.val (.extract (.tmp 78) 0)), none⟩,
          ⟨(some 83), (.val (.extract (.tmp 78) 1)), none⟩,
          ⟨(some 84), (.val (.extract (.tmp 78) 2)), none⟩,
          ⟨(some 16), (.val (.alloc 23 [(.int .i64 0), (.int .i64 0)])), none⟩,
          ⟨none, (.val (.store 2 (.tmp 16) (.tmp 82))), none⟩,
          ⟨(some 17), (.val (.mov (.tmp 83))), none⟩,
          ⟨(some 18), (.val (.mov (.tmp 84))), none⟩])
        (.seq
         (.region [⟨(some 86), (.val (.load (some 2) (.tmp 7))), none⟩,
           ⟨(some 87), (.val (.load (some 2) (.tmp 8))), none⟩,
           ⟨(some 88), (.call (.const (.func 7 [] [])) [(.const (.int .i64 13)), (.tmp 86), (.tmp 87)]), none⟩,
           ⟨(some 85), (.val (.mov (.tmp 88))), none⟩,
           ⟨(some 89), (.val (.extract (.tmp 85) 0)), none⟩,
           ⟨(some 90), (.val (.extract (.tmp 85) 1)), none⟩,
           ⟨(some 91), (.val (.extract (.tmp 85) 2)), none⟩,
           ⟨(some 19), (.val (.alloc 23 [(.int .i64 0), (.int .i64 0)])), none⟩,
           ⟨none, (.val (.store 2 (.tmp 19) (.tmp 89))), none⟩,
           ⟨(some 20), (.val (.mov (.tmp 90))), none⟩,
           ⟨(some 21), (.val (.mov (.tmp 91))), none⟩])
         (.seq
          (.region [⟨(some 93), (.val (.load (some 2) (.tmp 7))), none⟩,
            ⟨(some 94), (.val (.load (some 2) (.tmp 8))), none⟩,
            ⟨(some 95), (.call (.const (.func 7 [] [])) [(.const (.int .i64 16)), (.tmp 93), (.tmp 94)]), none⟩,
            ⟨(some 92), (.val (.mov (.tmp 95))), none⟩,
            ⟨(some 96), (.val (.extract (.tmp 92) 0)), none⟩,
            ⟨(some 97), (.val (.extract (.tmp 92) 1)), none⟩,
            ⟨(some 98), (.val (.extract (.tmp 92) 2)), none⟩,
            ⟨(some 22), (.val (.alloc 23 [(.int .i64 0), (.int .i64 0)])), none⟩,
            ⟨none, (.val (.store 2 (.tmp 22) (.tmp 96))), none⟩,
            ⟨(some 23), (.val (.mov (.tmp 97))), none⟩,
            ⟨(some 24), (.val (.mov (.tmp 98))), none⟩])
          (.seq
           (.region [⟨(some 100), (.val (.load (some 2) (.tmp 7))), none⟩,
             ⟨(some 101), (.val (.load (some 2) (.tmp 8))), none⟩,
             ⟨(some 102), (.call (.const (.func 7 [] [])) [(.const (.int .i64 5)), (.tmp 100), (.tmp 101)]), none⟩,
             ⟨(some 99), (.val (.mov (.tmp 102))), none⟩,
             ⟨(some 103), (.val (.extract (.tmp 99) 0)), none⟩,
             ⟨(some 104), (.val (.extract (.tmp 99) 1)), none⟩,
             ⟨(some 105), (.val (.extract (.tmp 99) 2)), none⟩,
             ⟨(some 25), (.val (.alloc 23 [(.int .i64 0), (.int .i64 0)])), none⟩,
             ⟨none, (.val (.store 2 (.tmp 25) (.tmp 103))), none⟩,
             ⟨(some 26), (.val (.mov (.tmp 104))), none⟩,
             ⟨(some 27), (.val (.mov (.tmp 105))), none⟩])
           (.seq
            (.region [⟨(some 107), (.val (.load (some 2) (.tmp 7))), none⟩,
              ⟨(some 108), (.val (.load (some 2) (.tmp 8))), none⟩,
              ⟨(some 109), (.call (.const (.func 7 [] [])) [(.const (.int .i64 8)), (.tmp 107), (.tmp 108)]), none⟩,
              ⟨(some 106), (.val (.mov (.tmp 109))), none⟩,
              ⟨(some 110), (.val (.extract (.tmp 106) 0)), none⟩,
              ⟨(some 111), (.val (.extract (.tmp 106) 1)), none⟩,
              ⟨(some 112), (.val (.extract (.tmp 106) 2)), none⟩,
              ⟨(some 28), (.val (.alloc 23 [(.int .i64 0), (.int .i64 0)])), none⟩,
              ⟨none, (.val (.store 2 (.tmp 28) (.tmp 110))), none⟩,
              ⟨(some 29), (.val (.mov (.tmp 111))), none⟩,
              ⟨(some 30), (.val (.mov (.tmp 112))), none⟩])
            (.seq
             (.region [⟨(some 114), (.val (.load (some 2) (.tmp 7))), none⟩,
               ⟨(some 115), (.val (.load (some 2) (.tmp 8))), none⟩,
               ⟨(some 116), (.call (.const (.func 7 [] [])) [(.const (.int .i64 3)), (.tmp 114), (.tmp 115)]), none⟩,
               ⟨(some 113), (.val (.mov (.tmp 116))), none⟩,
               ⟨(some 117), (.val (.extract (.tmp 113) 0)), none⟩,
               ⟨(some 118), (.val (.extract (.tmp 113) 1)), none⟩,
               ⟨(some 119), (.val (.extract (.tmp 113) 2)), none⟩,
               ⟨(some 31), (.val (.alloc 23 [(.int .i64 0), (.int .i64 0)])), none⟩,
               ⟨none, (.val (.store 2 (.tmp 31) (.tmp 117))), none⟩,
               ⟨(some 32), (.val (.mov (.tmp 118))), none⟩,
               ⟨(some 33), (.val (.mov (.tmp 119))), none⟩])
             (.seq
              (.region [⟨(some 121), (.val (.load (some 2) (.tmp 7))), none⟩,
                ⟨(some 122), (.val (.load (some 2) (.tmp 8))), none⟩,
                ⟨(some 123), (.call (.const (.func 7 [] [])) [(.const (.int .i64 4)), (.tmp 121), (.tmp 122)]), none⟩,
                ⟨(some 120), (.val (.mov (.tmp 123))), none⟩,
                ⟨(some 124), (.val (.extract (.tmp 120) 0)), none⟩,
                ⟨(some 125), (.val (.extract (.tmp 120) 1)), none⟩,
                ⟨(some 126), (.val (.extract (.tmp 120) 2)), none⟩,
                ⟨(some 34), (.val (.alloc 23 [(.int .i64 0), (.int .i64 0)])), none⟩,
                ⟨none, (.val (.store 2 (.tmp 34) (.tmp 124))), none⟩,
                ⟨(some 35), (.val (.mov (.tmp 125))), none⟩,
                ⟨(some 36), (.val (.mov (.tmp 126))), none⟩])
              (.seq
               (.region [⟨(some 127), (.val (.mov (.tmp 17))), none⟩,
                 ⟨(some 128), (.val (.eq false (.prim 1) (.tmp 127) (.const (.int .i64 0)))), none⟩,
                 ⟨(some 129), (.val (.mov (.tmp 128))), none⟩,
                 ⟨(some 130), (.val (.mov (.tmp 23))), (some (129, true))⟩,
                 ⟨(some 131), (.val (.eq false (.prim 1) (.tmp 130) (.const (.int .i64 0)))), (some (129, true))⟩,
                 ⟨(some 132), (.val (.pick (.tmp 129) (.tmp 131) (.const (.bool false)))), none⟩,
                 ⟨(some 133), (.val (.mov (.tmp 132))), none⟩,
                 ⟨(some 134), (.val (.mov (.tmp 14))), (some (133, true))⟩,
                 ⟨(some 135), (.val (.eq true (.prim 1) (.tmp 134) (.const (.int .i64 0)))), (some (133, true))⟩,
                 ⟨(some 136), (.val (.mov (.tmp 135))), (some (133, true))⟩,
                 ⟨(some 137), (.val (.load (some 2) (.tmp 13))), (some (136, false))⟩,
                 ⟨(some 138), (.val (.load (some 2) (.tmp 16))), (some (136, false))⟩,
                 ⟨(some 139), (.val (.eq false (.agg [(none, 0, (.prim 1)), (none, 1, (.prim 1))]) (.tmp 137) (.tmp 138))), (some (136, false))⟩,
                 ⟨(some 140), (.val (.pick (.tmp 136) (.const (.bool true)) (.tmp 139))), (some (133, true))⟩,
                 ⟨(some 141), (.val (.pick (.tmp 133) (.tmp 140) (.const (.bool false)))), none⟩,
                 ⟨(some 142), (.val (.mov (.tmp 141))), none⟩,
                 ⟨(some 143), (.val (.mov (.tmp 20))), (some (142, true))⟩,
                 ⟨(some 144), (.val (.eq true (.prim 1) (.tmp 143) (.const (.int .i64 0)))), (some (142, true))⟩,
                 ⟨(some 145), (.val (.mov (.tmp 144))), (some (142, true))⟩,
                 ⟨(some 146), (.val (.load (some 2) (.tmp 19))), (some (145, false))⟩,
                 ⟨(some 147), (.val (.load (some 2) (.tmp 22))), (some (145, false))⟩,
                 ⟨(some 148), (.val (.eq false (.agg [(none, 0, (.prim 1)), (none, 1, (.prim 1))]) (.tmp 146) (.tmp 147))), (some (145, false))⟩,
                 ⟨(some 149), (.val (.pick (.tmp 145) (.const (.bool true)) (.tmp 148))), (some (142, true))⟩,
                 ⟨(some 150), (.val (.pick (.tmp 142) (.tmp 149) (.const (.bool false)))), none⟩,
                 ⟨(some 151), (.val (.mov (.tmp 150))), none⟩,
                 ⟨(some 152), (.val (.mov (.tmp 14))), (some (151, true))⟩,
                 ⟨(some 153), (.val (.eq false (.prim 1) (.tmp 152) (.const (.int .i64 0)))), (some (151, true))⟩,
                 ⟨(some 154), (.val (.mov (.tmp 153))), (some (151, true))⟩,
                 ⟨(some 155), (.val (.mov (.tmp 14))), (some (154, false))⟩,
                 ⟨(some 156), (.val (.eq false (.prim 1) (.tmp 155) (.const (.int .i64 3)))), (some (154, false))⟩,
                 ⟨(some 157), (.val (.pick (.tmp 154) (.const (.bool true)) (.tmp 156))), (some (151, true))⟩,
                 ⟨(some 158), (.val (.pick (.tmp 151) (.tmp 157) (.const (.bool false)))), none⟩,
                 ⟨(some 159), (.val (.mov (.tmp 158))), none⟩,
                 ⟨(some 160), (.val (.faddr 1 (.tmp 25))), (some (159, true))⟩,
                 ⟨(some 161), (.val (.load none (.tmp 160))), (some (159, true))⟩,
                 ⟨(some 162), (.val (.faddr 1 (.tmp 28))), (some (159, true))⟩,
                 ⟨(some 163), (.val (.load none (.tmp 162))), (some (159, true))⟩,
                 ⟨(some 164), (.val (.bin .add (.tmp 161) (.tmp 163))), (some (159, true))⟩,
                 ⟨(some 165), (.val (.eq false (.prim 1) (.tmp 164) (.const (.int .i64 1)))), (some (159, true))⟩,
                 ⟨(some 166), (.val (.pick (.tmp 159) (.tmp 165) (.const (.bool false)))), none⟩,
                 ⟨(some 167), (.val (.mov (.tmp 166))), none⟩,
                 ⟨(some 168), (.val (.faddr 1 (.tmp 31))), (some (167, true))⟩,
                 ⟨(some 169), (.val (.load none (.tmp 168))), (some (167, true))⟩,
                 ⟨(some 170), (.val (.faddr 1 (.tmp 34))), (some (167, true))⟩,
                 ⟨(some 171), (.val (.load none (.tmp 170))), (some (167, true))⟩,
                 ⟨(some 172), (.val (.bin .add (.tmp 169) (.tmp 171))), (some (167, true))⟩,
                 ⟨(some 173), (.val (.eq false (.prim 1) (.tmp 172) (.const (.int .i64 1)))), (some (167, true))⟩,
                 ⟨(some 174), (.val (.pick (.tmp 167) (.tmp 173) (.const (.bool false)))), none⟩,
                 ⟨(some 175), (.val (.mov (.tmp 174))), none⟩,
                 ⟨(some 176), (.call (.const (.func 9 [] [])) []), (some (175, true))⟩,
                 ⟨(some 177), (.val (.pick (.tmp 175) (.tmp 176) (.const (.bool false)))), none⟩,
                 ⟨(some 6), (.val (.mov (.tmp 177))), none⟩])
               .ret)))))))))))))),
 [.tmp 6]⟩
theorem ok3 : cFun Try.prog G Try.f3 = some F3 := by kernel_rfl

/- balustrade/balustradelaw13.AluMakes -/
def F4 : IFun :=
 ⟨38,
 (.seq
  (.region [⟨(some 7), (.val (.box 23 (.tmp 3))), none⟩,
    ⟨(some 8), (.val (.mov (.const (.bool false)))), none⟩])
  (.seq
   (.draw [⟨(some 9), (.val (.mov (.tmp 0))), none⟩,
     ⟨(some 10), (.call (.const (.func 6 [] [])) [(.tmp 9)]), none⟩,
     ⟨(some 11), (.val (.mov (.tmp 0))), none⟩,
     ⟨(some 12), (.call (.const (.func 10 [] [])) [(.tmp 11)]), none⟩,
     ⟨(some 13), (.val (.eq false (.agg [(none, 0, (.prim 1)), (none, 1, (.prim 1))]) (.tmp 10) (.tmp 12))), none⟩,
     ⟨(some 14), (.val (.mov (.tmp 13))), none⟩,
     ⟨(some 15), (.val (.mov (.tmp 1))), (some (14, true))⟩,
     ⟨(some 16), (.call (.const (.func 11 [] [])) [(.tmp 15)]), (some (14, true))⟩,
     ⟨(some 17), (.val (.mov (.tmp 1))), (some (14, true))⟩,
     ⟨(some 18), (.call (.const (.func 12 [] [])) [(.tmp 17)]), (some (14, true))⟩,
     ⟨(some 19), (.val (.eq false (.agg [(none, 0, (.prim 1)), (none, 1, (.prim 1))]) (.tmp 16) (.tmp 18))), (some (14, true))⟩,
     ⟨(some 20), (.val (.pick (.tmp 14) (.tmp 19) (.const (.bool false)))), none⟩,
     ⟨(some 21), (.val (.mov (.tmp 20))), none⟩,
     ⟨(some 22), (.val (.mov (.tmp 2))), (some (21, true))⟩,
     ⟨(some 23), (.call (.const (.func 13 [] [])) [(.tmp 22)]), (some (21, true))⟩,
     ⟨(some 24), (.val (.mov (.tmp 2))), (some (21, true))⟩,
     ⟨(some 25), (.call (.const (.func 14 [] [])) [(.tmp 24)]), (some (21, true))⟩,
     ⟨(some 26), (.val (.eq false (.agg [(none, 0, (.prim 1)), (none, 1, (.prim 1))]) (.tmp 23) (.tmp 25))), (some (21, true))⟩,
     ⟨(some 27), (.val (.pick (.tmp 21) (.tmp 26) (.const (.bool false)))), none⟩,
     ⟨(some 28), (.val (.mov (.tmp 27))), none⟩,
     ⟨(some 29), (.val (.load (some 2) (.tmp 7))), (some (28, true))⟩,
     ⟨(some 30), (.call (.const (.func 8 [] [])) [(.tmp 29)]), (some (28, true))⟩,
     ⟨(some 31), (.val (.load (some 2) (.tmp 7))), (some (28, true))⟩,
     ⟨(some 32), (.call (.const (.func 15 [] [])) [(.tmp 31)]), (some (28, true))⟩,
     ⟨(some 33), (.val (.eq false (.prim 0) (.tmp 30) (.tmp 32))), (some (28, true))⟩,
     ⟨(some 34), (.val (.pick (.tmp 28) (.tmp 33) (.const (.bool false)))), none⟩,
     ⟨(some 35), (.val (.mov (.tmp 34))), none⟩,
     ⟨(some 36), (.call (.const (.func 9 [] [])) []), (some (35, true))⟩,
     ⟨(some 37), (.val (.pick (.tmp 35) (.tmp 36) (.const (.bool false)))), none⟩,
     ⟨(some 8), (.val (.mov (.tmp 37))), none⟩] [(22, 21)])
   .ret)),
 [.tmp 8]⟩
theorem ok4 : cFun Try.prog G Try.f4 = some F4 := by kernel_rfl

/- balustrade/balustradelaw13.AluTells -/
def F5 : IFun :=
 ⟨102,
 (.seq
  (.region [⟨(some 4), (.val (.box 23 (.tmp 1))), none⟩,
    ⟨(some 5), (.val (.box 23 (.tmp 2))), none⟩,
    ⟨(some 6), (.val (.mov (.const (.bool false)))), none⟩])
  (.seq
   (.region [⟨(some 24), (.val (.mov (.tmp 0))), none⟩,
     ⟨(some 25), (.val (.load (some 2) (.tmp 4))), none⟩,
     ⟨(some 26), (.val (.load (some 2) (.tmp 5))), none⟩,
     ⟨(some 27), (.call (.const (.func 7 [] [])) [(.tmp 24), (.tmp 25), (.tmp 26)]), none⟩,
     ⟨(some 23), (.val (.mov (.tmp 27))), none⟩,
     ⟨(some 28), (.val (.extract (.tmp 23) 0)), none⟩,
     ⟨(some 29), (.val (.extract (.tmp 23) 1)), none⟩,
     ⟨(some 30), (.val (.extract (.tmp 23) 2)), none⟩,
     ⟨(some 7), (.val (.alloc 23 [(.int .i64 0), (.int .i64 0)])), none⟩,
     ⟨none, (.val (.store 2 (.tmp 7) (.tmp 28))), none⟩,
     ⟨(some 8), (.val (.mov (.tmp 29))), none⟩,
     ⟨(some 9), (.val (.mov (.tmp 30))), none⟩])
   (.seq
    (.region [⟨(some 32), (.val (.mov (.tmp 0))), none⟩,
      ⟨(some 33), (.val (.load (some 2) (.tmp 4))), none⟩,
      ⟨(some 34), (.val (.load (some 2) (.tmp 5))), none⟩,
      ⟨(some 35), (.call (.const (.func 16 [] [])) [(.tmp 32), (.tmp 33), (.tmp 34)]), none⟩,
      ⟨(some 31), (.val (.mov (.tmp 35))), none⟩,
      ⟨(some 36), (.val (.extract (.tmp 31) 0)), none⟩,
      ⟨(some 37), (.val (.extract (.tmp 31) 1)), none⟩,
      ⟨(some 38), (.val (.extract (.tmp 31) 2)), none⟩,
      ⟨(some 10), (.val (.alloc 23 [(.int .i64 0), (.int .i64 0)])), none⟩,
      ⟨none, (.val (.store 2 (.tmp 10) (.tmp 36))), none⟩,
      ⟨(some 11), (.val (.mov (.tmp 37))), none⟩,
      ⟨(some 12), (.val (.mov (.tmp 38))), none⟩])
    (.seq
     (.region [⟨(some 40), (.val (.load (some 2) (.tmp 4))), none⟩,
       ⟨(some 41), (.call (.const (.func 17 [] [])) [(.tmp 40)]), none⟩,
       ⟨(some 39), (.val (.mov (.tmp 41))), none⟩,
       ⟨(some 42), (.val (.extract (.tmp 39) 0)), none⟩,
       ⟨(some 43), (.val (.extract (.tmp 39) 1)), none⟩,
       ⟨(some 44), (.val (.extract (.tmp 39) 2)), none⟩,
       ⟨(some 13), (.val (.alloc 23 [(.int .i64 0), (.int .i64 0)])), none⟩,
       ⟨none, (.val (.store 2 (.tmp 13) (.tmp 42))), none⟩,
       ⟨(some 14), (.val (.mov (.tmp 43))), none⟩,
       ⟨(some 15), (.val (.mov (.tmp 44))), none⟩])
     (.seq
      (.region [⟨(some 46), (.val (.load (some 2) (.tmp 4))), none⟩,
        ⟨(some 47), (.call (.const (.func 18 [] [])) [(.tmp 46)]), none⟩,
        ⟨(some 45), (.val (.mov (.tmp 47))), none⟩,
        ⟨(some 48), (.val (.extract (.tmp 45) 0)), none⟩,
        ⟨(some 49), (.val (.extract (.tmp 45) 1)), none⟩,
        ⟨(some 50), (.val (.extract (.tmp 45) 2)), none⟩,
        ⟨(some 16), (.val (.alloc 23 [(.int .i64 0), (.int .i64 0)])), none⟩,
        ⟨none, (.val (.store 2 (.tmp 16) (.tmp 48))), none⟩,
        ⟨(some 17), (.val (.mov (.tmp 49))), none⟩,
        ⟨(some 18), (.val (.mov (.tmp 50))), none⟩])
      (.seq
       (.region [⟨(some 52), (.val (.load (some 2) (.tmp 4))), none⟩,
         ⟨(some 53), (.call (.const (.func 19 [] [])) [(.tmp 52)]), none⟩,
         ⟨(some 51), (.val (.mov (.tmp 53))), none⟩,
         ⟨(some 54), (.val (.extract (.tmp 51) 0)), none⟩,
         ⟨(some 55), (.val (.extract (.tmp 51) 1)), none⟩,
         ⟨(some 19), (.val (.alloc 23 [(.int .i64 0), (.int .i64 0)])), none⟩,
         ⟨none, (.val (.store 2 (.tmp 19) (.tmp 54))), none⟩,
         ⟨(some 20), (.val (.mov (.tmp 55))), none⟩])
       (.seq
        (.region [⟨(some 57), (.val (.load (some 2) (.tmp 4))), none⟩,
          ⟨(some 58), (.call (.const (.func 20 [] [])) [(.tmp 57)]), none⟩,
          ⟨(some 56), (.val (.mov (.tmp 58))), none⟩,
          ⟨(some 59), (.val (.extract (.tmp 56) 0)), none⟩,
          ⟨(some 60), (.val (.extract (.tmp 56) 1)), none⟩,
          ⟨(some 21), (.val (.alloc 23 [(.int .i64 0), (.int .i64 0)])), none⟩,
          ⟨none, (.val (.store 2 (.tmp 21) (.tmp 59))), none⟩,
          ⟨(some 22), (.val (.mov (.tmp 60))), none⟩])
        (.seq
         (.region [⟨(some 61), (.val (.load (some 2) (.tmp 7))), none⟩,
           ⟨(some 62), (.val (.load (some 2) (.tmp 10))), none⟩,
           ⟨(some 63), (.val (.eq false (.agg [(none, 0, (.prim 1)), (none, 1, (.prim 1))]) (.tmp 61) (.tmp 62))), none⟩,
           ⟨(some 64), (.val (.mov (.tmp 63))), none⟩,
           ⟨(some 65), (.val (.mov (.tmp 8))), (some (64, true))⟩,
           ⟨(some 66), (.val (.mov (.tmp 11))), (some (64, true))⟩,
           ⟨(some 67), (.val (.eq false (.prim 1) (.tmp 65) (.tmp 66))), (some (64, true))⟩,
           ⟨(some 68), (.val (.pick (.tmp 64) (.tmp 67) (.const (.bool false)))), none⟩,
           ⟨(some 69), (.val (.mov (.tmp 68))), none⟩,
           ⟨(some 70), (.val (.mov (.tmp 9))), (some (69, true))⟩,
           ⟨(some 71), (.val (.mov (.tmp 12))), (some (69, true))⟩,
           ⟨(some 72), (.val (.eq false (.prim 0) (.tmp 70) (.tmp 71))), (some (69, true))⟩,
           ⟨(some 73), (.val (.pick (.tmp 69) (.tmp 72) (.const (.bool false)))), none⟩,
           ⟨(some 74), (.val (.mov (.tmp 73))), none⟩,
           ⟨(some 75), (.val (.load (some 2) (.tmp 13))), (some (74, true))⟩,
           ⟨(some 76), (.val (.load (some 2) (.tmp 16))), (some (74, true))⟩,
           ⟨(some 77), (.val (.eq false (.agg [(none, 0, (.prim 1)), (none, 1, (.prim 1))]) (.tmp 75) (.tmp 76))), (some (74, true))⟩,
           ⟨(some 78), (.val (.pick (.tmp 74) (.tmp 77) (.const (.bool false)))), none⟩,
           ⟨(some 79), (.val (.mov (.tmp 78))), none⟩,
           ⟨(some 80), (.val (.mov (.tmp 14))), (some (79, true))⟩,
           ⟨(some 81), (.val (.mov (.tmp 17))), (some (79, true))⟩,
           ⟨(some 82), (.val (.eq false (.prim 1) (.tmp 80) (.tmp 81))), (some (79, true))⟩,
           ⟨(some 83), (.val (.pick (.tmp 79) (.tmp 82) (.const (.bool false)))), none⟩,
           ⟨(some 84), (.val (.mov (.tmp 83))), none⟩,
           ⟨(some 85), (.val (.mov (.tmp 15))), (some (84, true))⟩,
           ⟨(some 86), (.val (.mov (.tmp 18))), (some (84, true))⟩,
           ⟨(some 87), (.val (.eq false (.prim 0) (.tmp 85) (.tmp 86))), (some (84, true))⟩,
           ⟨(some 88), (.val (.pick (.tmp 84) (.tmp 87) (.const (.bool false)))), none⟩,
           ⟨(some 89), (.val (.mov (.tmp 88))), none⟩,
           ⟨(some 90), (.val (.load (some 2) (.tmp 19))), (some (89, true))⟩,
           ⟨(some 91), (.val (.load (some 2) (.tmp 21))), (some (89, true))⟩,
           ⟨(some 92), (.val (.eq false (.agg [(none, 0, (.prim 1)), (none, 1, (.prim 1))]) (.tmp 90) (.tmp 91))), (some (89, true))⟩,
           ⟨(some 93), (.val (.pick (.tmp 89) (.tmp 92) (.const (.bool false)))), none⟩,
           ⟨(some 94), (.val (.mov (.tmp 93))), none⟩,
           ⟨(some 95), (.val (.mov (.tmp 20))), (some (94, true))⟩,
           ⟨(some 96), (.val (.mov (.tmp 22))), (some (94, true))⟩,
           ⟨(some 97), (.val (.eq false (.prim 0) (.tmp 95) (.tmp 96))), (some (94, true))⟩,
           ⟨(some 98), (.val (.pick (.tmp 94) (.tmp 97) (.const (.bool false)))), none⟩,
           ⟨(some 99), (.val (.mov (.tmp 98))), none⟩,
           ⟨(some 100), (.call (.const (.func 9 [] [])) []), (some (99, true))⟩,
           ⟨(some 101), (.val (.pick (.tmp 99) (.tmp 100) (.const (.bool false)))), none⟩,
           ⟨(some 6), (.val (.mov (.tmp 101))), none⟩])
         .ret)))))))),
 [.tmp 6]⟩
theorem ok5 : cFun Try.prog G Try.f5 = some F5 := by kernel_rfl

/- balustrade/alu.Int -/
def F6 : IFun :=
 ⟨5,
 (.seq
  (.region [⟨(some 2), (.val (.alloc 23 [(.int .i64 0), (.int .i64 0)])), none⟩])
  (.seq
   (.region [⟨(some 3), (.val (.mov (.tmp 0))), none⟩,
     ⟨(some 4), (.val (.build [(.int .i64 0), (.int .i64 0)] [(0, 1, (.const (.int .i64 1))), (1, 1, (.tmp 3))])), none⟩,
     ⟨none, (.val (.store 2 (.tmp 2) (.tmp 4))), none⟩])
   .ret)),
 [.cell 2 (some 2)]⟩
theorem ok6 : cFun Try.prog G Try.f6 = some F6 := by kernel_rfl

/- balustrade/alu.Two -/
def F7 : IFun :=
 ⟨85,
 (.seq
  (.region [⟨(some 4), (.val (.box 23 (.tmp 1))), none⟩,
    ⟨(some 5), (.val (.box 23 (.tmp 2))), none⟩,
    ⟨(some 6), (.val (.alloc 23 [(.int .i64 0), (.int .i64 0)])), none⟩,
    ⟨(some 7), (.val (.mov (.const (.int .i64 0)))), none⟩,
    ⟨(some 8), (.val (.mov (.const (.bool false)))), none⟩])
  (.seq
   (.seq
    (.region [⟨(some 13), (.val (.load (some 2) (.tmp 4))), none⟩,
      ⟨(some 14), (.call (.const (.func 8 [] [])) [(.tmp 13)]), none⟩,
      ⟨(some 15), (.val (.un .not (.tmp 14))), none⟩,
      ⟨(some 16), (.val (.mov (.tmp 15))), none⟩,
      ⟨(some 17), (.val (.load (some 2) (.tmp 5))), (some (16, false))⟩,
      ⟨(some 18), (.call (.const (.func 8 [] [])) [(.tmp 17)]), (some (16, false))⟩,
      ⟨(some 19), (.val (.un .not (.tmp 18))), (some (16, false))⟩,
      ⟨(some 20), (.val (.pick (.tmp 16) (.const (.bool true)) (.tmp 19))), none⟩,
      ⟨(some 21), (.val (.mov (.tmp 20))), none⟩,
      ⟨(some 22), (.val (.faddr 0 (.tmp 4))), (some (21, false))⟩,
      ⟨(some 23), (.val (.load none (.tmp 22))), (some (21, false))⟩,
      ⟨(some 24), (.val (.faddr 0 (.tmp 5))), (some (21, false))⟩,
      ⟨(some 25), (.val (.load none (.tmp 24))), (some (21, false))⟩,
      ⟨(some 26), (.val (.eq true (.prim 1) (.tmp 23) (.tmp 25))), (some (21, false))⟩,
      ⟨(some 27), (.val (.pick (.tmp 21) (.const (.bool true)) (.tmp 26))), none⟩])
    (.cond (.tmp 27)
     (.seq
      (.region [⟨(some 28), (.val (.build [(.int .i64 0), (.int .i64 0)] [])), none⟩,
        ⟨none, (.val (.store 2 (.tmp 6) (.tmp 28))), none⟩,
        ⟨(some 7), (.val (.mov (.const (.int .i64 0)))), none⟩,
        ⟨(some 8), (.val (.mov (.const (.bool false)))), none⟩])
      .ret)
     .skip))
   (.seq
    (.seq
     (.region [⟨(some 29), (.val (.mov (.tmp 0))), none⟩])
     (.block 0
      (.seq
       (.region [⟨(some 31), (.val (.eq false (.prim 1) (.tmp 29) (.const (.int .i64 3)))), none⟩,
         ⟨(some 30), (.val (.mov (.tmp 31))), none⟩])
       (.cond (.tmp 30)
        (.seq
         (.region [⟨(some 32), (.val (.load (some 2) (.tmp 4))), none⟩,
           ⟨(some 33), (.val (.load (some 2) (.tmp 5))), none⟩,
           ⟨(some 34), (.val (.eq false (.agg [(none, 0, (.prim 1)), (none, 1, (.prim 1))]) (.tmp 32) (.tmp 33))), none⟩,
           ⟨(some 35), (.call (.const (.func 11 [] [])) [(.tmp 34)]), none⟩,
           ⟨none, (.val (.store 2 (.tmp 6) (.tmp 35))), none⟩,
           ⟨(some 7), (.val (.mov (.const (.int .i64 0)))), none⟩,
           ⟨(some 8), (.val (.mov (.const (.bool true)))), none⟩])
         .ret)
        (.seq
         (.region [⟨(some 37), (.val (.eq false (.prim 1) (.tmp 29) (.const (.int .i64 4)))), none⟩,
           ⟨(some 36), (.val (.mov (.tmp 37))), none⟩])
         (.cond (.tmp 36)
          (.seq
           (.region [⟨(some 38), (.val (.load (some 2) (.tmp 4))), none⟩,
             ⟨(some 39), (.val (.load (some 2) (.tmp 5))), none⟩,
             ⟨(some 40), (.val (.eq true (.agg [(none, 0, (.prim 1)), (none, 1, (.prim 1))]) (.tmp 38) (.tmp 39))), none⟩,
             ⟨(some 41), (.call (.const (.func 11 [] [])) [(.tmp 40)]), none⟩,
             ⟨none, (.val (.store 2 (.tmp 6) (.tmp 41))), none⟩,
             ⟨(some 7), (.val (.mov (.const (.int .i64 0)))), none⟩,
             ⟨(some 8), (.val (.mov (.const (.bool true)))), none⟩])
           .ret)
          .skip))))))
    (.seq
     (.seq
      (.region [⟨(some 42), (.val (.faddr 0 (.tmp 4))), none⟩,
        ⟨(some 43), (.val (.load none (.tmp 42))), none⟩,
        ⟨(some 44), (.val (.eq true (.prim 1) (.tmp 43) (.const (.int .i64 1)))), none⟩])
      (.cond (.tmp 44)
       (.seq
        (.region [⟨(some 45), (.val (.build [(.int .i64 0), (.int .i64 0)] [])), none⟩,
          ⟨none, (.val (.store 2 (.tmp 6) (.tmp 45))), none⟩,
          ⟨(some 7), (.val (.mov (.const (.int .i64 0)))), none⟩,
          ⟨(some 8), (.val (.mov (.const (.bool false)))), none⟩])
        .ret)
       .skip))
     (.seq
      (.seq
       (.region [⟨(some 46), (.val (.mov (.tmp 0))), none⟩])
       (.block 1
        (.seq
         (.block 3
          (.block 2
           (.seq
            (.seq
             (.seq
              (.seq
               (.region [⟨(some 48), (.val (.eq false (.prim 1) (.tmp 46) (.const (.int .i64 5)))), none⟩,
                 ⟨(some 47), (.val (.mov (.tmp 48))), none⟩])
               (.cond (.tmp 47)
                .skip
                (.region [⟨(some 49), (.val (.eq false (.prim 1) (.tmp 46) (.const (.int .i64 6)))), none⟩,
                  ⟨(some 47), (.val (.mov (.tmp 49))), none⟩])))
              (.cond (.tmp 47)
               (.exit 2)
               .skip))
             (.seq
              (.seq
               (.region [⟨(some 51), (.val (.eq false (.prim 1) (.tmp 46) (.const (.int .i64 7)))), none⟩,
                 ⟨(some 50), (.val (.mov (.tmp 51))), none⟩])
               (.cond (.tmp 50)
                .skip
                (.region [⟨(some 52), (.val (.eq false (.prim 1) (.tmp 46) (.const (.int .i64 8)))), none⟩,
                  ⟨(some 50), (.val (.mov (.tmp 52))), none⟩])))
              (.cond (.tmp 50)
               (.exit 3)
               .skip)))
            (.exit 1))))
         (.seq
          (.seq
           (.region [⟨(some 53), (.val (.mov (.tmp 0))), none⟩,
             ⟨(some 54), (.val (.faddr 1 (.tmp 4))), none⟩,
             ⟨(some 55), (.val (.load none (.tmp 54))), none⟩,
             ⟨(some 56), (.val (.faddr 1 (.tmp 5))), none⟩,
             ⟨(some 57), (.val (.load none (.tmp 56))), none⟩,
             ⟨(some 58), (.call (.const (.func 21 [] [])) [(.tmp 53), (.tmp 55), (.tmp 57)]), none⟩,
             ⟨(some 59), (.call (.const (.func 11 [] [])) [(.tmp 58)]), none⟩,
             ⟨none, (.val (.store 2 (.tmp 6) (.tmp 59))), none⟩,
             ⟨(some 7), (.val (.mov (.const (.int .i64 0)))), none⟩,
             ⟨(some 8), (.val (.mov (.const (.bool true)))), none⟩])
           .ret)
          (.exit 1)))))
      (.seq
       (.region [⟨(some 61), (.val (.mov (.tmp 0))), none⟩,
         ⟨(some 62), (.call (.const (.func 22 [] [])) [(.tmp 61)]), none⟩,
         ⟨(some 60), (.val (.mov (.tmp 62))), none⟩,
         ⟨(some 63), (.val (.extract (.tmp 60) 0)), none⟩,
         ⟨(some 64), (.val (.extract (.tmp 60) 1)), none⟩,
         ⟨(some 9), (.val (.alloc 39 [.nilfunc, (.int .i64 0)])), none⟩,
         ⟨none, (.val (.store 2 (.tmp 9) (.tmp 63))), none⟩,
         ⟨(some 10), (.val (.mov (.tmp 64))), none⟩])
       (.seq
        (.seq
         (.region [⟨(some 65), (.val (.mov (.tmp 10))), none⟩,
           ⟨(some 66), (.val (.un .not (.tmp 65))), none⟩])
         (.cond (.tmp 66)
          (.seq
           (.region [⟨(some 67), (.val (.build [(.int .i64 0), (.int .i64 0)] [])), none⟩,
             ⟨none, (.val (.store 2 (.tmp 6) (.tmp 67))), none⟩,
             ⟨(some 7), (.val (.mov (.const (.int .i64 0)))), none⟩,
             ⟨(some 8), (.val (.mov (.const (.bool false)))), none⟩])
           .ret)
          .skip))
        (.seq
         (.region [⟨(some 69), (.val (.faddr 0 (.tmp 9))), none⟩,
           ⟨(some 70), (.val (.load none (.tmp 69))), none⟩,
           ⟨(some 71), (.val (.faddr 1 (.tmp 4))), none⟩,
           ⟨(some 72), (.val (.load none (.tmp 71))), none⟩,
           ⟨(some 73), (.val (.faddr 1 (.tmp 5))), none⟩,
           ⟨(some 74), (.val (.load none (.tmp 73))), none⟩,
           ⟨(some 75), (.call (.tmp 70) [(.tmp 72), (.tmp 74)]), none⟩,
           ⟨(some 68), (.val (.mov (.tmp 75))), none⟩,
           ⟨(some 76), (.val (.extract (.tmp 68) 0)), none⟩,
           ⟨(some 77), (.val (.extract (.tmp 68) 1)), none⟩,
           ⟨(some 11), (.val (.mov (.tmp 76))), none⟩,
           ⟨(some 12), (.val (.mov (.tmp 77))), none⟩])
         (.seq
          (.seq
           (.region [⟨(some 78), (.val (.mov (.tmp 12))), none⟩,
             ⟨(some 79), (.val (.un .not (.tmp 78))), none⟩])
           (.cond (.tmp 79)
            (.seq
             (.draw [⟨(some 80), (.val (.build [(.int .i64 0), (.int .i64 0)] [])), none⟩,
               ⟨(some 81), (.val (.faddr 1 (.tmp 9))), none⟩,
               ⟨(some 82), (.val (.load none (.tmp 81))), none⟩,
               ⟨none, (.val (.store 2 (.tmp 6) (.tmp 80))), none⟩,
               ⟨(some 7), (.val (.mov (.tmp 82))), none⟩,
               ⟨(some 8), (.val (.mov (.const (.bool true)))), none⟩] [(2, 3)])
             .ret)
            .skip))
          (.seq
           (.region [⟨(some 83), (.val (.mov (.tmp 11))), none⟩,
             ⟨(some 84), (.call (.const (.func 6 [] [])) [(.tmp 83)]), none⟩,
             ⟨none, (.val (.store 2 (.tmp 6) (.tmp 84))), none⟩,
             ⟨(some 7), (.val (.mov (.const (.int .i64 0)))), none⟩,
             ⟨(some 8), (.val (.mov (.const (.bool true)))), none⟩])
           .ret)))))))))),
 [.cell 6 (some 2), .tmp 7, .tmp 8]⟩
theorem ok7 : cFun Try.prog G Try.f7 = some F7 := by kernel_rfl

/- balustrade/alu.Right -/
def F8 : IFun :=
 ⟨22,
 (.seq
  (.region [⟨(some 1), (.val (.box 23 (.tmp 0))), none⟩,
    ⟨(some 2), (.val (.mov (.const (.bool false)))), none⟩])
  (.seq
   (.seq
    (.region [⟨(some 3), (.val (.faddr 0 (.tmp 1))), none⟩,
      ⟨(some 4), (.val (.load none (.tmp 3))), none⟩])
    (.block 0
     (.seq
      (.region [⟨(some 6), (.val (.eq false (.prim 1) (.tmp 4) (.const (.int .i64 1)))), none⟩,
        ⟨(some 5), (.val (.mov (.tmp 6))), none⟩])
      (.cond (.tmp 5)
       (.seq
        (.region [⟨(some 2), (.val (.mov (.const (.bool true)))), none⟩])
        .ret)
       (.seq
        (.region [⟨(some 8), (.val (.eq false (.prim 1) (.tmp 4) (.const (.int .i64 2)))), none⟩,
          ⟨(some 7), (.val (.mov (.tmp 8))), none⟩])
        (.cond (.tmp 7)
         (.seq
          (.region [⟨(some 9), (.val (.faddr 1 (.tmp 1))), none⟩,
            ⟨(some 10), (.val (.load none (.tmp 9))), none⟩,
            ⟨(some 11), (.val (.eq false (.prim 1) (.tmp 10) (.const (.int .i64 0)))), none⟩,
            ⟨(some 12), (.val (.mov (.tmp 11))), none⟩,
            ⟨(some 13), (.val (.faddr 1 (.tmp 1))), (some (12, false))⟩,
            ⟨(some 14), (.val (.load none (.tmp 13))), (some (12, false))⟩,
            ⟨(some 15), (.val (.eq false (.prim 1) (.tmp 14) (.const (.int .i64 1)))), (some (12, false))⟩,
            ⟨(some 16), (.val (.pick (.tmp 12) (.const (.bool true)) (.tmp 15))), none⟩,
            ⟨(some 2), (.val (.mov (.tmp 16))), none⟩])
          .ret)
         (.seq
          (.region [⟨(some 18), (.val (.eq false (.prim 1) (.tmp 4) (.const (.int .i64 3)))), none⟩,
            ⟨(some 17), (.val (.mov (.tmp 18))), none⟩])
          (.cond (.tmp 17)
           (.seq
            (.region [⟨(some 19), (.val (.faddr 1 (.tmp 1))), none⟩,
              ⟨(some 20), (.val (.load none (.tmp 19))), none⟩,
              ⟨(some 21), (.val (.bin .geq (.tmp 20) (.const (.int .i64 0)))), none⟩,
              ⟨(some 2), (.val (.mov (.tmp 21))), none⟩])
            .ret)
           .skip))))))))
   (.seq
    (.region [⟨(some 2), (.val (.mov (.const (.bool false)))), none⟩])
    .ret))),
 [.tmp 2]⟩
theorem ok8 : cFun Try.prog G Try.f8 = some F8 := by kernel_rfl

/- balustrade/balustradelaw13.works -/
def F9 : IFun :=
 ⟨48,
 (.seq
  (.region [⟨(some 0), (.val (.mov (.const (.bool false)))), none⟩])
  (.seq
   (.region [⟨(some 8), (.call (.const (.func 6 [] [])) [(.const (.int .i64 9223372036854775807))]), none⟩,
     ⟨(some 9), (.call (.const (.func 6 [] [])) [(.const (.int .i64 1))]), none⟩,
     ⟨(some 10), (.call (.const (.func 7 [] [])) [(.const (.int .i64 9)), (.tmp 8), (.tmp 9)]), none⟩,
     ⟨(some 7), (.val (.mov (.tmp 10))), none⟩,
     ⟨(some 11), (.val (.extract (.tmp 7) 0)), none⟩,
     ⟨(some 12), (.val (.extract (.tmp 7) 1)), none⟩,
     ⟨(some 13), (.val (.extract (.tmp 7) 2)), none⟩,
     ⟨(some 1), (.val (.alloc 23 [(.int .i64 0), (.int .i64 0)])), none⟩,
     ⟨none, (.val (.store 2 (.tmp 1) (.tmp 11))), none⟩,
     ⟨(some 2), (.val (.mov (.tmp 12))), none⟩,
     ⟨(some 3), (.val (.mov (.tmp 13))), none⟩])
   (.seq
    (.region [⟨(some 15), (.call (.const (.func 6 [] [])) [(.const (.int .i64 9223372036854775807))]), none⟩,
      ⟨(some 16), (.call (.const (.func 6 [] [])) [(.const (.int .i64 1))]), none⟩,
      ⟨(some 17), (.call (.const (.func 7 [] [])) [(.const (.int .i64 11)), (.tmp 15), (.tmp 16)]), none⟩,
      ⟨(some 14), (.val (.mov (.tmp 17))), none⟩,
      ⟨(some 18), (.val (.extract (.tmp 14) 0)), none⟩,
      ⟨(some 19), (.val (.extract (.tmp 14) 1)), none⟩,
      ⟨(some 20), (.val (.extract (.tmp 14) 2)), none⟩,
      ⟨(some 4), (.val (.alloc 23 [(.int .i64 0), (.int .i64 0)])), none⟩,
      ⟨none, (.val (.store 2 (.tmp 4) (.tmp 18))), none⟩,
      ⟨(some 5), (.val (.mov (.tmp 19))), none⟩,
      ⟨(some 6), (.val (.mov (.tmp 20))), none⟩])
    (.seq
     (.draw [⟨(some 21), (.val (.load (some 2) (.tmp 1))), none⟩,
       ⟨(some 22), (.val (.build [(.int .i64 0), (.int .i64 0)] [])), none⟩,
       ⟨(some 23), (.val (.eq false (.agg [(none, 0, (.prim 1)), (none, 1, (.prim 1))]) (.tmp 21) (.tmp 22))), none⟩,
       ⟨(some 24), (.val (.mov (.tmp 23))), none⟩,
       ⟨(some 25), (.val (.mov (.tmp 2))), (some (24, true))⟩,
       ⟨(some 26), (.val (.eq false (.prim 1) (.tmp 25) (.const (.int .i64 3)))), (some (24, true))⟩,
       ⟨(some 27), (.val (.pick (.tmp 24) (.tmp 26) (.const (.bool false)))), none⟩,
       ⟨(some 28), (.val (.mov (.tmp 27))), none⟩,
       ⟨(some 29), (.val (.mov (.tmp 3))), (some (28, true))⟩,
       ⟨(some 30), (.val (.pick (.tmp 28) (.tmp 29) (.const (.bool false)))), none⟩,
       ⟨(some 31), (.val (.mov (.tmp 30))), none⟩,
       ⟨(some 32), (.val (.load (some 2) (.tmp 4))), (some (31, true))⟩,
       ⟨(some 33), (.call (.const (.func 6 [] [])) [(.const (.int .i64 (-9223372036854775808)))]), (some (31, true))⟩,
       ⟨(some 34), (.val (.eq false (.agg [(none, 0, (.prim 1)), (none, 1, (.prim 1))]) (.tmp 32) (.tmp 33))), (some (31, true))⟩,
       ⟨(some 35), (.val (.pick (.tmp 31) (.tmp 34) (.const (.bool false)))), none⟩,
       ⟨(some 36), (.val (.mov (.tmp 35))), none⟩,
       ⟨(some 37), (.val (.mov (.tmp 5))), (some (36, true))⟩,
       ⟨(some 38), (.val (.eq false (.prim 1) (.tmp 37) (.const (.int .i64 0)))), (some (36, true))⟩,
       ⟨(some 39), (.val (.pick (.tmp 36) (.tmp 38) (.const (.bool false)))), none⟩,
       ⟨(some 40), (.val (.mov (.tmp 39))), none⟩,
       ⟨(some 41), (.val (.mov (.tmp 6))), (some (40, true))⟩,
       ⟨(some 42), (.val (.pick (.tmp 40) (.tmp 41) (.const (.bool false)))), none⟩,
       ⟨(some 43), (.val (.mov (.tmp 42))), none⟩,
       ⟨(some 44), (.call (.const (.func 11 [] [])) [(.const (.bool true))]), (some (43, true))⟩,
       ⟨(some 45), (.val (.fld none 1 (.tmp 44))), (some (43, true))⟩,
       ⟨(some 46), (.val (.eq false (.prim 1) (.tmp 45) (.const (.int .i64 1)))), (some (43, true))⟩,
       ⟨(some 47), (.val (.pick (.tmp 43) (.tmp 46) (.const (.bool false)))), none⟩,
       ⟨(some 0), (.val (.mov (.tmp 47))), none⟩] [(11, 12)])
     .ret)))),
 [.tmp 0]⟩
theorem ok9 : cFun Try.prog G Try.f9 = some F9 := by kernel_rfl

/- balustrade/balustraderef13.Int -/
def F10 : IFun :=
 ⟨5,
 (.seq
  (.region [⟨(some 2), (.val (.alloc 23 [(.int .i64 0), (.int .i64 0)])), none⟩])
  (.seq
   (.region [⟨(some 3), (.val (.mov (.tmp 0))), none⟩,
     ⟨(some 4), (.val (.build [(.int .i64 0), (.int .i64 0)] [(0, 1, (.const (.int .i64 1))), (1, 1, (.tmp 3))])), none⟩,
     ⟨none, (.val (.store 2 (.tmp 2) (.tmp 4))), none⟩])
   .ret)),
 [.cell 2 (some 2)]⟩
theorem ok10 : cFun Try.prog G Try.f10 = some F10 := by kernel_rfl

/- balustrade/alu.Bool -/
def F11 : IFun :=
 ⟨6,
 (.seq
  (.region [⟨(some 2), (.val (.alloc 23 [(.int .i64 0), (.int .i64 0)])), none⟩])
  (.seq
   (.seq
    (.region [⟨(some 3), (.val (.mov (.tmp 0))), none⟩])
    (.cond (.tmp 3)
     (.seq
      (.region [⟨(some 4), (.val (.build [(.int .i64 0), (.int .i64 0)] [(0, 1, (.const (.int .i64 2))), (1, 1, (.const (.int .i64 1)))])), none⟩,
        ⟨none, (.val (.store 2 (.tmp 2) (.tmp 4))), none⟩])
      .ret)
     .skip))
   (.seq
    (.region [⟨(some 5), (.val (.build [(.int .i64 0), (.int .i64 0)] [(0, 1, (.const (.int .i64 2)))])), none⟩,
      ⟨none, (.val (.store 2 (.tmp 2) (.tmp 5))), none⟩])
    .ret))),
 [.cell 2 (some 2)]⟩
theorem ok11 : cFun Try.prog G Try.f11 = some F11 := by kernel_rfl

/- balustrade/balustraderef13.Bool -/
def F12 : IFun :=
 ⟨6,
 (.seq
  (.region [⟨(some 2), (.val (.alloc 23 [(.int .i64 0), (.int .i64 0)])), none⟩])
  (.seq
   (.seq
    (.region [⟨(some 3), (.val (.mov (.tmp 0))), none⟩])
    (.cond (.tmp 3)
     (.seq
      (.region [⟨(some 4), (.val (.build [(.int .i64 0), (.int .i64 0)] [(0, 1, (.const (.int .i64 2))), (1, 1, (.const (.int .i64 1)))])), none⟩,
        ⟨none, (.val (.store 2 (.tmp 2) (.tmp 4))), none⟩])
      .ret)
     .skip))
   (.seq
    (.region [⟨(some 5), (.val (.build [(.int .i64 0), (.int .i64 0)] [(0, 1, (.const (.int .i64 2)))])), none⟩,
      ⟨none, (.val (.store 2 (.tmp 2) (.tmp 5))), none⟩])
    .ret))),
 [.cell 2 (some 2)]⟩
theorem ok12 : cFun Try.prog G Try.f12 = some F12 := by kernel_rfl

/- balustrade/alu.Zero -/
def F13 : IFun :=
 ⟨12,
 (.seq
  (.region [⟨(some 2), (.val (.alloc 23 [(.int .i64 0), (.int .i64 0)])), none⟩])
  (.seq
   (.seq
    (.region [⟨(some 3), (.val (.mov (.tmp 0))), none⟩,
      ⟨(some 4), (.val (.bin .lss (.tmp 3) (.const (.int .i64 1)))), none⟩,
      ⟨(some 5), (.val (.mov (.tmp 4))), none⟩,
      ⟨(some 6), (.val (.mov (.tmp 0))), (some (5, false))⟩,
      ⟨(some 7), (.val (.bin .gtr (.tmp 6) (.const (.int .i64 3)))), (some (5, false))⟩,
      ⟨(some 8), (.val (.pick (.tmp 5) (.const (.bool true)) (.tmp 7))), none⟩])
    (.cond (.tmp 8)
     (.seq
      (.region [⟨(some 9), (.val (.build [(.int .i64 0), (.int .i64 0)] [])), none⟩,
        ⟨none, (.val (.store 2 (.tmp 2) (.tmp 9))), none⟩])
      .ret)
     .skip))
   (.seq
    (.region [⟨(some 10), (.val (.mov (.tmp 0))), none⟩,
      ⟨(some 11), (.val (.build [(.int .i64 0), (.int .i64 0)] [(0, 1, (.tmp 10))])), none⟩,
      ⟨none, (.val (.store 2 (.tmp 2) (.tmp 11))), none⟩])
    .ret))),
 [.cell 2 (some 2)]⟩
theorem ok13 : cFun Try.prog G Try.f13 = some F13 := by kernel_rfl

/- balustrade/balustraderef13.Zero -/
def F14 : IFun :=
 ⟨12,
 (.seq
  (.region [⟨(some 2), (.val (.alloc 23 [(.int .i64 0), (.int .i64 0)])), none⟩])
  (.seq
   (.seq
    (.region [⟨(some 3), (.val (.mov (.tmp 0))), none⟩,
      ⟨(some 4), (.val (.bin .lss (.tmp 3) (.const (.int .i64 1)))), none⟩,
      ⟨(some 5), (.val (.mov (.tmp 4))), none⟩,
      ⟨(some 6), (.val (.mov (.tmp 0))), (some (5, false))⟩,
      ⟨(some 7), (.val (.bin .gtr (.tmp 6) (.const (.int .i64 3)))), (some (5, false))⟩,
      ⟨(some 8), (.val (.pick (.tmp 5) (.const (.bool true)) (.tmp 7))), none⟩])
    (.cond (.tmp 8)
     (.seq
      (.region [⟨(some 9), (.val (.build [(.int .i64 0), (.int .i64 0)] [])), none⟩,
        ⟨none, (.val (.store 2 (.tmp 2) (.tmp 9))), none⟩])
      .ret)
     .skip))
   (.seq
    (.region [⟨(some 10), (.val (.mov (.tmp 0))), none⟩,
      ⟨(some 11), (.val (.build [(.int .i64 0), (.int .i64 0)] [(0, 1, (.tmp 10))])), none⟩,
      ⟨none, (.val (.store 2 (.tmp 2) (.tmp 11))), none⟩])
    .ret))),
 [.cell 2 (some 2)]⟩
theorem ok14 : cFun Try.prog G Try.f14 = some F14 := by kernel_rfl

/- balustrade/balustraderef13.Right -/
def F15 : IFun :=
 ⟨31,
 (.seq
  (.region [⟨(some 1), (.val (.box 23 (.tmp 0))), none⟩,
    ⟨(some 2), (.val (.mov (.const (.bool false)))), none⟩])
  (.seq
   (.region [⟨(some 3), (.val (.faddr 0 (.tmp 1))), none⟩,
     ⟨(some 4), (.val (.load none (.tmp 3))), none⟩,
     ⟨(some 5), (.val (.eq false (.prim 1) (.tmp 4) (.const (.int .i64 1)))), none⟩,
     ⟨(some 6), (.val (.mov (.tmp 5))), none⟩,
     ⟨(some 7), (.val (.faddr 0 (.tmp 1))), (some (6, false))⟩,
     ⟨(some 8), (.val (.load none (.tmp 7))), (some (6, false))⟩,
     ⟨(some 9), (.val (.eq false (.prim 1) (.tmp 8) (.const (.int .i64 2)))), (some (6, false))⟩,
     ⟨(some 10), (.val (.mov (.tmp 9))), (some (6, false))⟩,
     ⟨(some 11), (.val (.faddr 1 (.tmp 1))), (some (10, true))⟩,
     ⟨(some 12), (.val (.load none (.tmp 11))), (some (10, true))⟩,
     ⟨(some 13), (.val (.eq false (.prim 1) (.tmp 12) (.const (.int .i64 0)))), (some (10, true))⟩,
     ⟨(some 14), (.val (.mov (.tmp 13))), (some (10, true))⟩,
     ⟨(some 15), (.val (.faddr 1 (.tmp 1))), (some (14, false))⟩,
     ⟨(some 16), (.val (.load none (.tmp 15))), (some (14, false))⟩,
     ⟨(some 17), (.val (.eq false (.prim 1) (.tmp 16) (.const (.int .i64 1)))), (some (14, false))⟩,
     ⟨(some 18), (.val (.pick (.tmp 14) (.const (.bool true)) (.tmp 17))), (some (10, true))⟩,
     ⟨(some 19), (.val (.pick (.tmp 10) (.tmp 18) (.const (.bool false)))), (some (6, false))⟩,
     ⟨(some 20), (.val (.pick (.tmp 6) (.const (.bool true)) (.tmp 19))), none⟩,
     ⟨(some 21), (.val (.mov (.tmp 20))), none⟩,
     ⟨(some 22), (.val (.faddr 0 (.tmp 1))), (some (21, false))⟩,
     ⟨(some 23), (.val (.load none (.tmp 22))), (some (21, false))⟩,
     ⟨(some 24), (.val (.eq false (.prim 1) (.tmp 23) (.const (.int .i64 3)))), (some (21, false))⟩,
     ⟨(some 25), (.val (.mov (.tmp 24))), (some (21, false))⟩,
     ⟨(some 26), (.val (.faddr 1 (.tmp 1))), (some (25, true))⟩,
     ⟨(some 27), (.val (.load none (.tmp 26))), (some (25, true))⟩,
     ⟨(some 28), (.val (.bin .geq (.tmp 27) (.const (.int .i64 0)))), (some (25, true))⟩,
     ⟨(some 29), (.val (.pick (.tmp 25) (.tmp 28) (.const (.bool false)))), (some (21, false))⟩,
     ⟨(some 30), (.val (.pick (.tmp 21) (.const (.bool true)) (.tmp 29))), none⟩,
     ⟨(some 2), (.val (.mov (.tmp 30))), none⟩])
   .ret)),
 [.tmp 2]⟩
theorem ok15 : cFun Try.prog G Try.f15 = some F15 := by kernel_rfl

/- balustrade/balustraderef13.Two -/
def F16 : IFun :=
 ⟨54,
 (.seq
  (.region [⟨(some 4), (.val (.box 23 (.tmp 1))), none⟩,
    ⟨(some 5), (.val (.box 23 (.tmp 2))), none⟩,
    ⟨(some 6), (.val (.alloc 23 [(.int .i64 0), (.int .i64 0)])), none⟩,
    ⟨(some 7), (.val (.mov (.const (.int .i64 0)))), none⟩,
    ⟨(some 8), (.val (.mov (.const (.bool false)))), none⟩])
  (.seq
   (.seq
    (.region [⟨(some 9), (.val (.load (some 2) (.tmp 4))), none⟩,
      ⟨(some 10), (.call (.const (.func 15 [] [])) [(.tmp 9)]), none⟩,
      ⟨(some 11), (.val (.un .not (.tmp 10))), none⟩,
      ⟨(some 12), (.val (.mov (.tmp 11))), none⟩,
      ⟨(some 13), (.val (.load (some 2) (.tmp 5))), (some (12, false))⟩,
      ⟨(some 14), (.call (.const (.func 15 [] [])) [(.tmp 13)]), (some (12, false))⟩,
      ⟨(some 15), (.val (.un .not (.tmp 14))), (some (12, false))⟩,
      ⟨(some 16), (.val (.pick (.tmp 12) (.const (.bool true)) (.tmp 15))), none⟩,
      ⟨(some 17), (.val (.mov (.tmp 16))), none⟩,
      ⟨(some 18), (.val (.faddr 0 (.tmp 4))), (some (17, false))⟩,
      ⟨(some 19), (.val (.load none (.tmp 18))), (some (17, false))⟩,
      ⟨(some 20), (.val (.faddr 0 (.tmp 5))), (some (17, false))⟩,
      ⟨(some 21), (.val (.load none (.tmp 20))), (some (17, false))⟩,
      ⟨(some 22), (.val (.eq true (.prim 1) (.tmp 19) (.tmp 21))), (some (17, false))⟩,
      ⟨(some 23), (.val (.pick (.tmp 17) (.const (.bool true)) (.tmp 22))), none⟩])
    (.cond (.tmp 23)
     (.seq
      (.region [⟨(some 24), (.val (.build [(.int .i64 0), (.int .i64 0)] [])), none⟩,
        ⟨none, (.val (.store 2 (.tmp 6) (.tmp 24))), none⟩,
        ⟨(some 7), (.val (.mov (.const (.int .i64 0)))), none⟩,
        ⟨(some 8), (.val (.mov (.const (.bool false)))), none⟩])
      .ret)
     .skip))
   (.seq
    (.seq
     (.region [⟨(some 25), (.val (.mov (.tmp 0))), none⟩,
       ⟨(some 26), (.val (.eq false (.prim 1) (.tmp 25) (.const (.int .i64 3)))), none⟩])
     (.cond (.tmp 26)
      (.seq
       (.region [⟨(some 27), (.val (.faddr 1 (.tmp 4))), none⟩,
         ⟨(some 28), (.val (.load none (.tmp 27))), none⟩,
         ⟨(some 29), (.val (.faddr 1 (.tmp 5))), none⟩,
         ⟨(some 30), (.val (.load none (.tmp 29))), none⟩,
         ⟨(some 31), (.val (.eq false (.prim 1) (.tmp 28) (.tmp 30))), none⟩,
         ⟨(some 32), (.call (.const (.func 12 [] [])) [(.tmp 31)]), none⟩,
         ⟨none, (.val (.store 2 (.tmp 6) (.tmp 32))), none⟩,
         ⟨(some 7), (.val (.mov (.const (.int .i64 0)))), none⟩,
         ⟨(some 8), (.val (.mov (.const (.bool true)))), none⟩])
       .ret)
      .skip))
    (.seq
     (.seq
      (.region [⟨(some 33), (.val (.mov (.tmp 0))), none⟩,
        ⟨(some 34), (.val (.eq false (.prim 1) (.tmp 33) (.const (.int .i64 4)))), none⟩])
      (.cond (.tmp 34)
       (.seq
        (.region [⟨(some 35), (.val (.faddr 1 (.tmp 4))), none⟩,
          ⟨(some 36), (.val (.load none (.tmp 35))), none⟩,
          ⟨(some 37), (.val (.faddr 1 (.tmp 5))), none⟩,
          ⟨(some 38), (.val (.load none (.tmp 37))), none⟩,
          ⟨(some 39), (.val (.eq true (.prim 1) (.tmp 36) (.tmp 38))), none⟩,
          ⟨(some 40), (.call (.const (.func 12 [] [])) [(.tmp 39)]), none⟩,
          ⟨none, (.val (.store 2 (.tmp 6) (.tmp 40))), none⟩,
          ⟨(some 7), (.val (.mov (.const (.int .i64 0)))), none⟩,
          ⟨(some 8), (.val (.mov (.const (.bool true)))), none⟩])
        .ret)
       .skip))
     (.seq
      (.seq
       (.region [⟨(some 41), (.val (.faddr 0 (.tmp 4))), none⟩,
         ⟨(some 42), (.val (.load none (.tmp 41))), none⟩,
         ⟨(some 43), (.val (.eq true (.prim 1) (.tmp 42) (.const (.int .i64 1)))), none⟩])
       (.cond (.tmp 43)
        (.seq
         (.region [⟨(some 44), (.val (.build [(.int .i64 0), (.int .i64 0)] [])), none⟩,
           ⟨none, (.val (.store 2 (.tmp 6) (.tmp 44))), none⟩,
           ⟨(some 7), (.val (.mov (.const (.int .i64 0)))), none⟩,
           ⟨(some 8), (.val (.mov (.const (.bool false)))), none⟩])
         .ret)
        .skip))
      (.seq
       (.region [⟨(some 45), (.val (.mov (.tmp 0))), none⟩,
         ⟨(some 46), (.val (.faddr 1 (.tmp 4))), none⟩,
         ⟨(some 47), (.val (.load none (.tmp 46))), none⟩,
         ⟨(some 48), (.val (.faddr 1 (.tmp 5))), none⟩,
         ⟨(some 49), (.val (.load none (.tmp 48))), none⟩,
         ⟨(some 50), (.call (.const (.func 23 [] [])) [(.tmp 45), (.tmp 47), (.tmp 49)]), none⟩,
         ⟨(some 51), (.val (.extract (.tmp 50) 0)), none⟩,
         ⟨(some 52), (.val (.extract (.tmp 50) 1)), none⟩,
         ⟨(some 53), (.val (.extract (.tmp 50) 2)), none⟩,
         ⟨none, (.val (.store 2 (.tmp 6) (.tmp 51))), none⟩,
         ⟨(some 7), (.val (.mov (.tmp 52))), none⟩,
         ⟨(some 8), (.val (.mov (.tmp 53))), none⟩])
       .ret)))))),
 [.cell 6 (some 2), .tmp 7, .tmp 8]⟩
theorem ok16 : cFun Try.prog G Try.f16 = some F16 := by kernel_rfl

/- balustrade/alu.Neg -/
def F17 : IFun :=
 ⟨11,
 (.seq
  (.region [⟨(some 1), (.val (.box 23 (.tmp 0))), none⟩,
    ⟨(some 2), (.val (.alloc 23 [(.int .i64 0), (.int .i64 0)])), none⟩,
    ⟨(some 3), (.val (.mov (.const (.int .i64 0)))), none⟩,
    ⟨(some 4), (.val (.mov (.const (.bool false)))), none⟩])
  (.seq
   (.draw [⟨(some 5), (.call (.const (.func 6 [] [])) [(.const (.int .i64 0))]), none⟩,
     ⟨(some 6), (.val (.load (some 2) (.tmp 1))), none⟩,
     ⟨(some 7), (.call (.const (.func 7 [] [])) [(.const (.int .i64 10)), (.tmp 5), (.tmp 6)]), none⟩,
     ⟨(some 8), (.val (.extract (.tmp 7) 0)), none⟩,
     ⟨(some 9), (.val (.extract (.tmp 7) 1)), none⟩,
     ⟨(some 10), (.val (.extract (.tmp 7) 2)), none⟩,
     ⟨none, (.val (.store 2 (.tmp 2) (.tmp 8))), none⟩,
     ⟨(some 3), (.val (.mov (.tmp 9))), none⟩,
     ⟨(some 4), (.val (.mov (.tmp 10))), none⟩] [(1, 0)])
   .ret)),
 [.cell 2 (some 2), .tmp 3, .tmp 4]⟩
theorem ok17 : cFun Try.prog G Try.f17 = some F17 := by kernel_rfl

/- balustrade/balustraderef13.Neg -/
def F18 : IFun :=
 ⟨23,
 (.seq
  (.region [⟨(some 1), (.val (.box 23 (.tmp 0))), none⟩,
    ⟨(some 2), (.val (.alloc 23 [(.int .i64 0), (.int .i64 0)])), none⟩,
    ⟨(some 3), (.val (.mov (.const (.int .i64 0)))), none⟩,
    ⟨(some 4), (.val (.mov (.const (.bool false)))), none⟩])
  (.seq
   (.seq
    (.region [⟨(some 7), (.val (.faddr 0 (.tmp 1))), none⟩,
      ⟨(some 8), (.val (.load none (.tmp 7))), none⟩,
      ⟨(some 9), (.val (.eq true (.prim 1) (.tmp 8) (.const (.int .i64 1)))), none⟩])
    (.cond (.tmp 9)
     (.seq
      (.region [⟨(some 10), (.val (.build [(.int .i64 0), (.int .i64 0)] [])), none⟩,
        ⟨none, (.val (.store 2 (.tmp 2) (.tmp 10))), none⟩,
        ⟨(some 3), (.val (.mov (.const (.int .i64 0)))), none⟩,
        ⟨(some 4), (.val (.mov (.const (.bool false)))), none⟩])
      .ret)
     .skip))
   (.seq
    (.region [⟨(some 12), (.val (.faddr 1 (.tmp 1))), none⟩,
      ⟨(some 13), (.val (.load none (.tmp 12))), none⟩,
      ⟨(some 14), (.call (.const (.func 24 [] [])) [(.tmp 13)]), none⟩,
      ⟨(some 11), (.val (.mov (.tmp 14))), none⟩,
      ⟨(some 15), (.val (.extract (.tmp 11) 0)), none⟩,
      ⟨(some 16), (.val (.extract (.tmp 11) 1)), none⟩,
      ⟨(some 5), (.val (.mov (.tmp 15))), none⟩,
      ⟨(some 6), (.val (.mov (.tmp 16))), none⟩])
    (.seq
     (.region [⟨(some 17), (.val (.mov (.tmp 5))), none⟩,
       ⟨(some 18), (.val (.mov (.tmp 6))), none⟩,
       ⟨(some 19), (.call (.const (.func 25 [] [])) [(.tmp 17), (.tmp 18), (.const (.int .i64 3))]), none⟩,
       ⟨(some 20), (.val (.extract (.tmp 19) 0)), none⟩,
       ⟨(some 21), (.val (.extract (.tmp 19) 1)), none⟩,
       ⟨(some 22), (.val (.extract (.tmp 19) 2)), none⟩,
       ⟨none, (.val (.store 2 (.tmp 2) (.tmp 20))), none⟩,
       ⟨(some 3), (.val (.mov (.tmp 21))), none⟩,
       ⟨(some 4), (.val (.mov (.tmp 22))), none⟩])
     .ret)))),
 [.cell 2 (some 2), .tmp 3, .tmp 4]⟩
theorem ok18 : cFun Try.prog G Try.f18 = some F18 := by kernel_rfl

/- balustrade/alu.Not -/
def F19 : IFun :=
 ⟨17,
 (.seq
  (.region [⟨(some 1), (.val (.box 23 (.tmp 0))), none⟩,
    ⟨(some 2), (.val (.alloc 23 [(.int .i64 0), (.int .i64 0)])), none⟩,
    ⟨(some 3), (.val (.mov (.const (.bool false)))), none⟩])
  (.seq
   (.seq
    (.region [⟨(some 4), (.val (.faddr 0 (.tmp 1))), none⟩,
      ⟨(some 5), (.val (.load none (.tmp 4))), none⟩,
      ⟨(some 6), (.val (.eq true (.prim 1) (.tmp 5) (.const (.int .i64 2)))), none⟩,
      ⟨(some 7), (.val (.mov (.tmp 6))), none⟩,
      ⟨(some 8), (.val (.load (some 2) (.tmp 1))), (some (7, false))⟩,
      ⟨(some 9), (.call (.const (.func 8 [] [])) [(.tmp 8)]), (some (7, false))⟩,
      ⟨(some 10), (.val (.un .not (.tmp 9))), (some (7, false))⟩,
      ⟨(some 11), (.val (.pick (.tmp 7) (.const (.bool true)) (.tmp 10))), none⟩])
    (.cond (.tmp 11)
     (.seq
      (.region [⟨(some 12), (.val (.build [(.int .i64 0), (.int .i64 0)] [])), none⟩,
        ⟨none, (.val (.store 2 (.tmp 2) (.tmp 12))), none⟩,
        ⟨(some 3), (.val (.mov (.const (.bool false)))), none⟩])
      .ret)
     .skip))
   (.seq
    (.region [⟨(some 13), (.val (.faddr 1 (.tmp 1))), none⟩,
      ⟨(some 14), (.val (.load none (.tmp 13))), none⟩,
      ⟨(some 15), (.val (.eq false (.prim 1) (.tmp 14) (.const (.int .i64 0)))), none⟩,
      ⟨(some 16), (.call (.const (.func 11 [] [])) [(.tmp 15)]), none⟩,
      ⟨none, (.val (.store 2 (.tmp 2) (.tmp 16))), none⟩,
      ⟨(some 3), (.val (.mov (.const (.bool true)))), none⟩])
    .ret))),
 [.cell 2 (some 2), .tmp 3]⟩
theorem ok19 : cFun Try.prog G Try.f19 = some F19 := by kernel_rfl

end Go.Proofs.Ytcgplbakdflkiaa.Ev
