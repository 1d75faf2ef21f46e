/- The evaluator's code of the given functions, printed by program (EvPut); part 0. -/
import Derived.KernelRfl
import Derived.Test.YthlbifjgnhdonaaChecked
import Derived.Test.YthlbifjgnhdonaaEvCode
namespace Go.Proofs.Ythlbifjgnhdonaa.Ev
open Go
def G : List Nat := []

/- balustrade/balustradelaw12.HeapApart -/
def F3l0 : ICode :=
 (.seq
  (.seq
   (.region [⟨(some 41), (.val (.mov (.tmp 13))), none⟩,
     ⟨(some 42), (.val (.mov (.tmp 0))), none⟩,
     ⟨(some 43), (.val (.mov (.tmp 11))), none⟩,
     ⟨(some 44), (.val (.iaddr 1 (.tmp 42) (.tmp 43))), none⟩,
     ⟨(some 45), (.val (.load none (.tmp 44))), none⟩,
     ⟨(some 46), (.val (.conv (.int .i64) (.tmp 45))), none⟩,
     ⟨(some 47), (.val (.bin .rem (.tmp 46) (.const (.int .i64 20)))), none⟩,
     ⟨(some 48), (.val (.bin .lss (.tmp 41) (.tmp 47))), none⟩])
   (.cond (.tmp 48)
    .skip
    (.exit 2)))
  (.seq
   (.block 3
    (.region [⟨(some 51), (.val (.mov (.tmp 12))), none⟩,
      ⟨(some 52), (.val (.mov (.tmp 11))), none⟩,
      ⟨(some 53), (.val (.bin .mul (.tmp 52) (.const (.int .i64 100)))), none⟩,
      ⟨(some 54), (.val (.mov (.tmp 13))), none⟩,
      ⟨(some 55), (.val (.bin .add (.tmp 53) (.tmp 54))), none⟩,
      ⟨(some 56), (.val (.bslice 3 1 1 [(.int .i64 0)] [(0, (.tmp 55))])), none⟩,
      ⟨(some 57), (.val (.append 3 1 8 (.tmp 51) (.tmp 56))), none⟩,
      ⟨(some 12), (.val (.mov (.tmp 57))), none⟩]))
   (.region [⟨(some 49), (.val (.mov (.tmp 13))), none⟩,
     ⟨(some 50), (.val (.bin .add (.tmp 49) (.const (.int .i64 1)))), none⟩,
     ⟨(some 13), (.val (.mov (.tmp 50))), none⟩])))
def F3l1 : ICode :=
 (.seq
  (.seq
   (.region [⟨(some 34), (.val (.mov (.tmp 11))), none⟩,
     ⟨(some 35), (.val (.mov (.tmp 0))), none⟩,
     ⟨(some 36), (.val (.len (.tmp 35))), none⟩,
     ⟨(some 37), (.val (.bin .lss (.tmp 34) (.tmp 36))), none⟩])
   (.cond (.tmp 37)
    .skip
    (.exit 0)))
  (.seq
   (.block 1
    (.seq
     (.region [⟨(some 40), (.val (.bslice 3 1 0 [(.int .i64 0)] [])), none⟩,
       ⟨(some 12), (.val (.mov (.tmp 40))), none⟩])
     (.seq
      (.seq
       (.region [⟨(some 13), (.val (.mov (.const (.int .i64 0)))), none⟩])
       (.block 2
        (.loop F3l0)))
      (.seq
       (.region [⟨(some 59), (.val (.mov (.tmp 9))), none⟩,
         ⟨(some 60), (.val (.mov (.tmp 12))), none⟩,
         ⟨(some 61), (.call (.const (.func 8 [] [])) [(.tmp 59), (.tmp 60)]), none⟩,
         ⟨(some 58), (.val (.mov (.tmp 61))), none⟩,
         ⟨(some 62), (.val (.extract (.tmp 58) 0)), none⟩,
         ⟨(some 63), (.val (.extract (.tmp 58) 1)), none⟩,
         ⟨(some 14), (.val (.mov (.tmp 62))), none⟩,
         ⟨(some 15), (.val (.mov (.tmp 63))), none⟩])
       (.seq
        (.seq
         (.region [⟨(some 64), (.val (.mov (.tmp 15))), none⟩,
           ⟨(some 65), (.val (.un .not (.tmp 64))), none⟩,
           ⟨(some 66), (.val (.mov (.tmp 65))), none⟩,
           ⟨(some 67), (.val (.mov (.tmp 14))), (some (66, false))⟩,
           ⟨(some 68), (.val (.mov (.tmp 11))), (some (66, false))⟩,
           ⟨(some 69), (.val (.bin .add (.tmp 68) (.const (.int .i64 1)))), (some (66, false))⟩,
           ⟨(some 70), (.val (.eq true (.prim 1) (.tmp 67) (.tmp 69))), (some (66, false))⟩,
           ⟨(some 71), (.val (.pick (.tmp 66) (.const (.bool true)) (.tmp 70))), none⟩])
         (.cond (.tmp 71)
          (.seq
           (.region [⟨(some 8), (.val (.mov (.const (.bool false)))), none⟩])
           .ret)
          .skip))
        (.region [⟨(some 72), (.val (.mov (.tmp 10))), none⟩,
          ⟨(some 73), (.val (.mov (.tmp 12))), none⟩,
          ⟨(some 74), (.val (.bslice 27 1 1 [.nilslice] [(0, (.tmp 73))])), none⟩,
          ⟨(some 75), (.val (.append 27 1 24 (.tmp 72) (.tmp 74))), none⟩,
          ⟨(some 10), (.val (.mov (.tmp 75))), none⟩]))))))
   (.region [⟨(some 38), (.val (.mov (.tmp 11))), none⟩,
     ⟨(some 39), (.val (.bin .add (.tmp 38) (.const (.int .i64 1)))), none⟩,
     ⟨(some 11), (.val (.mov (.tmp 39))), none⟩])))
def F3l2 : ICode :=
 (.seq
  (.seq
   (.region [⟨(some 138), (.val (.mov (.tmp 20))), none⟩,
     ⟨(some 139), (.val (.mov (.tmp 10))), none⟩,
     ⟨(some 140), (.val (.len (.tmp 139))), none⟩,
     ⟨(some 141), (.val (.bin .lss (.tmp 138) (.tmp 140))), none⟩])
   (.cond (.tmp 141)
    .skip
    (.exit 4)))
  (.seq
   (.block 5
    (.seq
     (.region [⟨(some 145), (.val (.mov (.tmp 9))), none⟩,
       ⟨(some 146), (.val (.mov (.tmp 20))), none⟩,
       ⟨(some 147), (.val (.bin .add (.tmp 146) (.const (.int .i64 1)))), none⟩,
       ⟨(some 148), (.call (.const (.func 9 [] [])) [(.tmp 145), (.tmp 147)]), none⟩,
       ⟨(some 144), (.val (.mov (.tmp 148))), none⟩,
       ⟨(some 149), (.val (.extract (.tmp 144) 0)), none⟩,
       ⟨(some 150), (.val (.extract (.tmp 144) 1)), none⟩,
       ⟨(some 21), (.val (.mov (.tmp 149))), none⟩,
       ⟨(some 22), (.val (.mov (.tmp 150))), none⟩])
     (.seq
      (.region [⟨(some 151), (.val (.mov (.tmp 22))), none⟩,
        ⟨(some 152), (.val (.un .not (.tmp 151))), none⟩,
        ⟨(some 153), (.val (.mov (.tmp 152))), none⟩,
        ⟨(some 154), (.val (.mov (.tmp 21))), (some (153, false))⟩,
        ⟨(some 155), (.val (.mov (.tmp 10))), (some (153, false))⟩,
        ⟨(some 156), (.val (.mov (.tmp 20))), (some (153, false))⟩,
        ⟨(some 157), (.val (.iaddr 1 (.tmp 155) (.tmp 156))), (some (153, false))⟩,
        ⟨(some 158), (.val (.load none (.tmp 157))), (some (153, false))⟩,
        ⟨(some 159), (.call (.const (.func 11 [] [])) [(.tmp 154), (.tmp 158)]), (some (153, false))⟩,
        ⟨(some 160), (.val (.un .not (.tmp 159))), (some (153, false))⟩,
        ⟨(some 161), (.val (.pick (.tmp 153) (.const (.bool true)) (.tmp 160))), none⟩])
      (.cond (.tmp 161)
       (.seq
        (.region [⟨(some 8), (.val (.mov (.const (.bool false)))), none⟩])
        .ret)
       .skip))))
   (.region [⟨(some 142), (.val (.mov (.tmp 20))), none⟩,
     ⟨(some 143), (.val (.bin .add (.tmp 142) (.const (.int .i64 1)))), none⟩,
     ⟨(some 20), (.val (.mov (.tmp 143))), none⟩])))
def F3 : IFun :=
 ⟨163,
 (.seq
  (.region [⟨(some 8), (.val (.mov (.const (.bool false)))), none⟩])
  (.seq
   (.seq
    (.region [⟨(some 23), (.val (.mov (.tmp 0))), none⟩,
      ⟨(some 24), (.val (.len (.tmp 23))), none⟩,
      ⟨(some 25), (.val (.bin .gtr (.tmp 24) (.const (.int .i64 20)))), none⟩,
      ⟨(some 26), (.val (.mov (.tmp 25))), none⟩,
      ⟨(some 27), (.val (.mov (.tmp 0))), (some (26, false))⟩,
      ⟨(some 28), (.val (.len (.tmp 27))), (some (26, false))⟩,
      ⟨(some 29), (.val (.eq false (.prim 1) (.tmp 28) (.const (.int .i64 0)))), (some (26, false))⟩,
      ⟨(some 30), (.val (.pick (.tmp 26) (.const (.bool true)) (.tmp 29))), none⟩])
    (.cond (.tmp 30)
     (.seq
      (.region [⟨(some 31), (.call (.const (.func 6 [] [])) []), none⟩,
        ⟨(some 8), (.val (.mov (.tmp 31))), none⟩])
      .ret)
     .skip))
   (.seq
    (.region [⟨(some 32), (.call (.const (.func 7 [] [])) [(.const (.int .i64 10000))]), none⟩,
      ⟨(some 9), (.val (.mov (.tmp 32))), none⟩])
    (.seq
     (.region [⟨(some 33), (.val (.bslice 27 1 0 [.nilslice] [])), none⟩,
       ⟨(some 10), (.val (.mov (.tmp 33))), none⟩])
     (.seq
      (.seq
       (.region [⟨(some 11), (.val (.mov (.const (.int .i64 0)))), none⟩])
       (.block 0
        (.loop F3l1)))
      (.seq
       (.region [⟨(some 76), (.val (.mov (.tmp 1))), none⟩,
         ⟨(some 77), (.val (.conv (.int .i64) (.tmp 76))), none⟩,
         ⟨(some 78), (.val (.mov (.tmp 0))), none⟩,
         ⟨(some 79), (.val (.len (.tmp 78))), none⟩,
         ⟨(some 80), (.val (.bin .rem (.tmp 77) (.tmp 79))), none⟩,
         ⟨(some 16), (.val (.mov (.tmp 80))), none⟩])
       (.seq
        (.region [⟨(some 82), (.val (.mov (.tmp 9))), none⟩,
          ⟨(some 83), (.val (.mov (.tmp 16))), none⟩,
          ⟨(some 84), (.val (.bin .add (.tmp 83) (.const (.int .i64 1)))), none⟩,
          ⟨(some 85), (.call (.const (.func 9 [] [])) [(.tmp 82), (.tmp 84)]), none⟩,
          ⟨(some 81), (.val (.mov (.tmp 85))), none⟩,
          ⟨(some 86), (.val (.extract (.tmp 81) 0)), none⟩,
          ⟨(some 87), (.val (.extract (.tmp 81) 1)), none⟩,
          ⟨(some 17), (.val (.mov (.tmp 86))), none⟩,
          ⟨(some 18), (.val (.mov (.tmp 87))), none⟩])
        (.seq
         (.seq
          (.region [⟨(some 88), (.val (.mov (.tmp 10))), none⟩,
            ⟨(some 89), (.val (.mov (.tmp 16))), none⟩,
            ⟨(some 90), (.val (.iaddr 1 (.tmp 88) (.tmp 89))), none⟩,
            ⟨(some 91), (.val (.load none (.tmp 90))), none⟩,
            ⟨(some 92), (.val (.len (.tmp 91))), none⟩,
            ⟨(some 93), (.val (.bin .gtr (.tmp 92) (.const (.int .i64 0)))), none⟩])
          (.cond (.tmp 93)
           (.seq
            (.region [⟨(some 94), (.val (.mov (.tmp 2))), none⟩,
              ⟨(some 95), (.val (.conv (.int .i64) (.tmp 94))), none⟩,
              ⟨(some 96), (.val (.mov (.tmp 10))), none⟩,
              ⟨(some 97), (.val (.mov (.tmp 16))), none⟩,
              ⟨(some 98), (.val (.iaddr 1 (.tmp 96) (.tmp 97))), none⟩,
              ⟨(some 99), (.val (.load none (.tmp 98))), none⟩,
              ⟨(some 100), (.val (.len (.tmp 99))), none⟩,
              ⟨(some 101), (.val (.bin .rem (.tmp 95) (.tmp 100))), none⟩,
              ⟨(some 19), (.val (.mov (.tmp 101))), none⟩])
            (.seq
             (.seq
              (.region [⟨(some 102), (.val (.mov (.tmp 17))), none⟩,
                ⟨(some 103), (.val (.len (.tmp 102))), none⟩,
                ⟨(some 104), (.val (.mov (.tmp 10))), none⟩,
                ⟨(some 105), (.val (.mov (.tmp 16))), none⟩,
                ⟨(some 106), (.val (.iaddr 1 (.tmp 104) (.tmp 105))), none⟩,
                ⟨(some 107), (.val (.load none (.tmp 106))), none⟩,
                ⟨(some 108), (.val (.len (.tmp 107))), none⟩,
                ⟨(some 109), (.val (.eq true (.prim 1) (.tmp 103) (.tmp 108))), none⟩,
                ⟨(some 110), (.val (.mov (.tmp 109))), none⟩,
                ⟨(some 111), (.val (.mov (.tmp 9))), (some (110, false))⟩,
                ⟨(some 112), (.val (.mov (.tmp 16))), (some (110, false))⟩,
                ⟨(some 113), (.val (.bin .add (.tmp 112) (.const (.int .i64 1)))), (some (110, false))⟩,
                ⟨(some 114), (.val (.mov (.tmp 19))), (some (110, false))⟩,
                ⟨(some 115), (.val (.mov (.tmp 3))), (some (110, false))⟩,
                ⟨(some 116), (.call (.const (.func 10 [] [])) [(.tmp 111), (.tmp 113), (.tmp 114), (.tmp 115)]), (some (110, false))⟩,
                ⟨(some 117), (.val (.un .not (.tmp 116))), (some (110, false))⟩,
                ⟨(some 118), (.val (.pick (.tmp 110) (.const (.bool true)) (.tmp 117))), none⟩])
              (.cond (.tmp 118)
               (.seq
                (.region [⟨(some 8), (.val (.mov (.const (.bool false)))), none⟩])
                .ret)
               .skip))
             (.seq
              (.seq
               (.draw [⟨(some 119), (.val (.mov (.tmp 17))), none⟩,
                 ⟨(some 120), (.val (.mov (.tmp 19))), none⟩,
                 ⟨(some 121), (.val (.iaddr 1 (.tmp 119) (.tmp 120))), none⟩,
                 ⟨(some 122), (.val (.load none (.tmp 121))), none⟩,
                 ⟨(some 123), (.val (.mov (.tmp 10))), none⟩,
                 ⟨(some 124), (.val (.mov (.tmp 16))), none⟩,
                 ⟨(some 125), (.val (.iaddr 1 (.tmp 123) (.tmp 124))), none⟩,
                 ⟨(some 126), (.val (.load none (.tmp 125))), none⟩,
                 ⟨(some 127), (.val (.mov (.tmp 19))), none⟩,
                 ⟨(some 128), (.val (.iaddr 1 (.tmp 126) (.tmp 127))), none⟩,
                 ⟨(some 129), (.val (.load none (.tmp 128))), none⟩,
                 ⟨(some 130), (.val (.eq true (.prim 1) (.tmp 122) (.tmp 129))), none⟩] [])
               (.cond (.tmp 130)
                (.seq
                 (.region [⟨(some 8), (.val (.mov (.const (.bool false)))), none⟩])
                 .ret)
                .skip))
              (.region [⟨(some 131), (.val (.mov (.tmp 10))), none⟩,
                ⟨(some 132), (.val (.mov (.tmp 16))), none⟩,
                ⟨(some 133), (.val (.iaddr 1 (.tmp 131) (.tmp 132))), none⟩,
                ⟨(some 134), (.val (.load none (.tmp 133))), none⟩,
                ⟨(some 135), (.val (.mov (.tmp 19))), none⟩,
                ⟨(some 136), (.val (.mov (.tmp 3))), none⟩,
                ⟨(some 137), (.val (.iaddr 1 (.tmp 134) (.tmp 135))), none⟩,
                ⟨none, (.val (.store 1 (.tmp 137) (.tmp 136))), none⟩]))))
           .skip))
         (.seq
          (.seq
           (.region [⟨(some 20), (.val (.mov (.const (.int .i64 0)))), none⟩])
           (.block 4
            (.loop F3l2)))
          (.seq
           (.region [⟨(some 162), (.call (.const (.func 6 [] [])) []), none⟩,
             ⟨(some 8), (.val (.mov (.tmp 162))), none⟩])
           .ret)))))))))),
 [.tmp 8]⟩
theorem ok3 : cFun Try.prog G Try.f3 = some F3 := by kernel_rfl

/- balustrade/balustradelaw12.HeapNone -/
def F4 : IFun :=
 ⟨95,
 (.seq
  (.region [⟨(some 4), (.val (.mov (.const (.bool false)))), none⟩])
  (.seq
   (.region [⟨(some 16), (.val (.build [.nilslice, .nilslice, (.int .i64 0), (.int .i64 0), (.bool false)] [])), none⟩,
     ⟨(some 17), (.val (.box 36 (.tmp 16))), none⟩,
     ⟨(some 5), (.val (.mov (.tmp 17))), none⟩])
   (.seq
    (.region [⟨(some 19), (.val (.mov (.tmp 5))), none⟩,
      ⟨(some 20), (.val (.mov (.tmp 1))), none⟩,
      ⟨(some 21), (.call (.const (.func 12 [] [])) [(.tmp 19), (.tmp 20)]), none⟩,
      ⟨(some 18), (.val (.mov (.tmp 21))), none⟩,
      ⟨(some 22), (.val (.extract (.tmp 18) 0)), none⟩,
      ⟨(some 23), (.val (.extract (.tmp 18) 1)), none⟩,
      ⟨(some 6), (.val (.mov (.tmp 22))), none⟩,
      ⟨(some 7), (.val (.mov (.tmp 23))), none⟩])
    (.seq
     (.region [⟨(some 25), (.val (.mov (.tmp 5))), none⟩,
       ⟨(some 26), (.call (.const (.func 8 [] [])) [(.tmp 25), (.const .nilslice)]), none⟩,
       ⟨(some 24), (.val (.mov (.tmp 26))), none⟩,
       ⟨(some 27), (.val (.extract (.tmp 24) 0)), none⟩,
       ⟨(some 28), (.val (.extract (.tmp 24) 1)), none⟩,
       ⟨(some 8), (.val (.mov (.tmp 27))), none⟩,
       ⟨(some 9), (.val (.mov (.tmp 28))), none⟩])
     (.seq
      (.region [⟨(some 30), (.val (.mov (.tmp 5))), none⟩,
        ⟨(some 31), (.val (.mov (.tmp 0))), none⟩,
        ⟨(some 32), (.call (.const (.func 13 [] [])) [(.tmp 30), (.tmp 31)]), none⟩,
        ⟨(some 29), (.val (.mov (.tmp 32))), none⟩,
        ⟨(some 33), (.val (.extract (.tmp 29) 0)), none⟩,
        ⟨(some 34), (.val (.extract (.tmp 29) 1)), none⟩,
        ⟨(some 10), (.val (.mov (.tmp 33))), none⟩,
        ⟨(some 11), (.val (.mov (.tmp 34))), none⟩])
      (.seq
       (.region [⟨(some 36), (.val (.mov (.tmp 5))), none⟩,
         ⟨(some 37), (.val (.mov (.tmp 0))), none⟩,
         ⟨(some 38), (.val (.mov (.tmp 1))), none⟩,
         ⟨(some 39), (.call (.const (.func 14 [] [])) [(.tmp 36), (.tmp 37), (.tmp 38)]), none⟩,
         ⟨(some 35), (.val (.mov (.tmp 39))), none⟩,
         ⟨(some 40), (.val (.extract (.tmp 35) 0)), none⟩,
         ⟨(some 41), (.val (.extract (.tmp 35) 1)), none⟩,
         ⟨(some 12), (.val (.mov (.tmp 40))), none⟩,
         ⟨(some 13), (.val (.mov (.tmp 41))), none⟩])
       (.seq
        (.region [⟨(some 43), (.val (.mov (.tmp 5))), none⟩,
          ⟨(some 44), (.val (.mov (.tmp 0))), none⟩,
          ⟨(some 45), (.call (.const (.func 9 [] [])) [(.tmp 43), (.tmp 44)]), none⟩,
          ⟨(some 42), (.val (.mov (.tmp 45))), none⟩,
          ⟨(some 46), (.val (.extract (.tmp 42) 0)), none⟩,
          ⟨(some 47), (.val (.extract (.tmp 42) 1)), none⟩,
          ⟨(some 14), (.val (.mov (.tmp 46))), none⟩,
          ⟨(some 15), (.val (.mov (.tmp 47))), none⟩])
        (.seq
         (.region [⟨(some 48), (.val (.mov (.tmp 6))), none⟩,
           ⟨(some 49), (.val (.mov (.tmp 8))), none⟩,
           ⟨(some 50), (.val (.bin .add (.tmp 48) (.tmp 49))), none⟩,
           ⟨(some 51), (.val (.eq false (.prim 1) (.tmp 50) (.const (.int .i64 0)))), none⟩,
           ⟨(some 52), (.val (.mov (.tmp 51))), none⟩,
           ⟨(some 53), (.val (.mov (.tmp 7))), (some (52, true))⟩,
           ⟨(some 54), (.val (.un .not (.tmp 53))), (some (52, true))⟩,
           ⟨(some 55), (.val (.pick (.tmp 52) (.tmp 54) (.const (.bool false)))), none⟩,
           ⟨(some 56), (.val (.mov (.tmp 55))), none⟩,
           ⟨(some 57), (.val (.mov (.tmp 9))), (some (56, true))⟩,
           ⟨(some 58), (.val (.un .not (.tmp 57))), (some (56, true))⟩,
           ⟨(some 59), (.val (.pick (.tmp 56) (.tmp 58) (.const (.bool false)))), none⟩,
           ⟨(some 60), (.val (.mov (.tmp 59))), none⟩,
           ⟨(some 61), (.val (.mov (.tmp 11))), (some (60, true))⟩,
           ⟨(some 62), (.val (.un .not (.tmp 61))), (some (60, true))⟩,
           ⟨(some 63), (.val (.pick (.tmp 60) (.tmp 62) (.const (.bool false)))), none⟩,
           ⟨(some 64), (.val (.mov (.tmp 63))), none⟩,
           ⟨(some 65), (.val (.mov (.tmp 13))), (some (64, true))⟩,
           ⟨(some 66), (.val (.un .not (.tmp 65))), (some (64, true))⟩,
           ⟨(some 67), (.val (.pick (.tmp 64) (.tmp 66) (.const (.bool false)))), none⟩,
           ⟨(some 68), (.val (.mov (.tmp 67))), none⟩,
           ⟨(some 69), (.val (.mov (.tmp 15))), (some (68, true))⟩,
           ⟨(some 70), (.val (.un .not (.tmp 69))), (some (68, true))⟩,
           ⟨(some 71), (.val (.pick (.tmp 68) (.tmp 70) (.const (.bool false)))), none⟩,
           ⟨(some 72), (.val (.mov (.tmp 71))), none⟩,
           ⟨(some 73), (.val (.mov (.tmp 14))), (some (72, true))⟩,
           ⟨(some 74), (.val (.len (.tmp 73))), (some (72, true))⟩,
           ⟨(some 75), (.val (.eq false (.prim 1) (.tmp 74) (.const (.int .i64 0)))), (some (72, true))⟩,
           ⟨(some 76), (.val (.pick (.tmp 72) (.tmp 75) (.const (.bool false)))), none⟩,
           ⟨(some 77), (.val (.mov (.tmp 76))), none⟩,
           ⟨(some 78), (.val (.mov (.tmp 5))), (some (77, true))⟩,
           ⟨(some 79), (.val (.mov (.tmp 0))), (some (77, true))⟩,
           ⟨(some 80), (.val (.mov (.tmp 1))), (some (77, true))⟩,
           ⟨(some 81), (.call (.const (.func 10 [] [])) [(.tmp 78), (.tmp 79), (.tmp 80), (.const (.int .i64 1))]), (some (77, true))⟩,
           ⟨(some 82), (.val (.un .not (.tmp 81))), (some (77, true))⟩,
           ⟨(some 83), (.val (.pick (.tmp 77) (.tmp 82) (.const (.bool false)))), none⟩,
           ⟨(some 84), (.val (.mov (.tmp 83))), none⟩,
           ⟨(some 85), (.val (.mov (.tmp 5))), (some (84, true))⟩,
           ⟨(some 86), (.call (.const (.func 15 [] [])) [(.tmp 85)]), (some (84, true))⟩,
           ⟨(some 87), (.val (.mov (.tmp 5))), (some (84, true))⟩,
           ⟨(some 88), (.call (.const (.func 16 [] [])) [(.tmp 87)]), (some (84, true))⟩,
           ⟨(some 89), (.val (.bin .add (.tmp 86) (.tmp 88))), (some (84, true))⟩,
           ⟨(some 90), (.val (.eq false (.prim 1) (.tmp 89) (.const (.int .i64 0)))), (some (84, true))⟩,
           ⟨(some 91), (.val (.pick (.tmp 84) (.tmp 90) (.const (.bool false)))), none⟩,
           ⟨(some 92), (.val (.mov (.tmp 91))), none⟩,
           ⟨(some 93), (.call (.const (.func 6 [] [])) []), (some (92, true))⟩,
           ⟨(some 94), (.val (.pick (.tmp 92) (.tmp 93) (.const (.bool false)))), none⟩,
           ⟨(some 4), (.val (.mov (.tmp 94))), none⟩])
         .ret)))))))),
 [.tmp 4]⟩
theorem ok4 : cFun Try.prog G Try.f4 = some F4 := by kernel_rfl

/- balustrade/balustradelaw12.HeapTells -/
def F5l0 : ICode :=
 (.seq
  (.seq
   (.region [⟨(some 43), (.val (.mov (.tmp 7))), none⟩,
     ⟨(some 44), (.val (.mov (.tmp 1))), none⟩,
     ⟨(some 45), (.val (.len (.tmp 44))), none⟩,
     ⟨(some 46), (.val (.bin .lss (.tmp 43) (.tmp 45))), none⟩])
   (.cond (.tmp 46)
    .skip
    (.exit 0)))
  (.seq
   (.block 1
    (.seq
     (.seq
      (.region [⟨(some 49), (.val (.mov (.tmp 1))), none⟩,
        ⟨(some 50), (.val (.mov (.tmp 7))), none⟩,
        ⟨(some 51), (.val (.iaddr 5 (.tmp 49) (.tmp 50))), none⟩,
        ⟨(some 52), (.val (.faddr 4 (.tmp 51))), none⟩,
        ⟨(some 53), (.val (.load none (.tmp 52))), none⟩,
        ⟨(some 54), (.val (.len (.tmp 53))), none⟩,
        ⟨(some 55), (.val (.bin .gtr (.tmp 54) (.const (.int .i64 50)))), none⟩])
      (.cond (.tmp 55)
       (.seq
        (.region [⟨(some 56), (.call (.const (.func 6 [] [])) []), none⟩,
          ⟨(some 4), (.val (.mov (.tmp 56))), none⟩])
        .ret)
       .skip))
     (.seq
      (.draw [⟨(some 57), (.val (.mov (.tmp 5))), none⟩,
        ⟨(some 58), (.val (.mov (.tmp 1))), none⟩,
        ⟨(some 59), (.val (.mov (.tmp 7))), none⟩,
        ⟨(some 60), (.val (.iaddr 5 (.tmp 58) (.tmp 59))), none⟩,
        ⟨(some 61), (.val (.load (some 5) (.tmp 60))), none⟩,
        ⟨(some 62), (.call (.const (.func 18 [] [])) [(.tmp 57), (.tmp 6), (.tmp 61)]), none⟩,
        ⟨(some 63), (.val (.un .not (.tmp 62))), none⟩,
        ⟨(some 64), (.val (.mov (.tmp 63))), none⟩,
        ⟨(some 65), (.val (.mov (.tmp 5))), (some (64, false))⟩,
        ⟨(some 66), (.call (.const (.func 15 [] [])) [(.tmp 65)]), (some (64, false))⟩,
        ⟨(some 67), (.val (.faddr 0 (.tmp 6))), (some (64, false))⟩,
        ⟨(some 68), (.val (.load none (.tmp 67))), (some (64, false))⟩,
        ⟨(some 69), (.val (.len (.tmp 68))), (some (64, false))⟩,
        ⟨(some 70), (.val (.eq true (.prim 1) (.tmp 66) (.tmp 69))), (some (64, false))⟩,
        ⟨(some 71), (.val (.pick (.tmp 64) (.const (.bool true)) (.tmp 70))), none⟩,
        ⟨(some 72), (.val (.mov (.tmp 71))), none⟩,
        ⟨(some 73), (.val (.mov (.tmp 5))), (some (72, false))⟩,
        ⟨(some 74), (.call (.const (.func 16 [] [])) [(.tmp 73)]), (some (72, false))⟩,
        ⟨(some 75), (.val (.load (some 2) (.tmp 6))), (some (72, false))⟩,
        ⟨(some 76), (.call (.const (.func 19 [] [])) [(.tmp 75)]), (some (72, false))⟩,
        ⟨(some 77), (.val (.eq true (.prim 1) (.tmp 74) (.tmp 76))), (some (72, false))⟩,
        ⟨(some 78), (.val (.pick (.tmp 72) (.const (.bool true)) (.tmp 77))), none⟩] [(11, 9), (18, 17)])
      (.cond (.tmp 78)
       (.seq
        (.region [⟨(some 4), (.val (.mov (.const (.bool false)))), none⟩])
        .ret)
       .skip))))
   (.region [⟨(some 47), (.val (.mov (.tmp 7))), none⟩,
     ⟨(some 48), (.val (.bin .add (.tmp 47) (.const (.int .i64 1)))), none⟩,
     ⟨(some 7), (.val (.mov (.tmp 48))), none⟩])))
def F5l1 : ICode :=
 (.seq
  (.seq
   (.region [⟨(some 79), (.val (.mov (.tmp 8))), none⟩,
     ⟨(some 80), (.val (.faddr 0 (.tmp 6))), none⟩,
     ⟨(some 81), (.val (.load none (.tmp 80))), none⟩,
     ⟨(some 82), (.val (.len (.tmp 81))), none⟩,
     ⟨(some 83), (.val (.bin .leq (.tmp 79) (.tmp 82))), none⟩])
   (.cond (.tmp 83)
    .skip
    (.exit 2)))
  (.seq
   (.block 3
    (.seq
     (.region [⟨(some 87), (.val (.mov (.tmp 5))), none⟩,
       ⟨(some 88), (.val (.mov (.tmp 8))), none⟩,
       ⟨(some 89), (.call (.const (.func 9 [] [])) [(.tmp 87), (.tmp 88)]), none⟩,
       ⟨(some 86), (.val (.mov (.tmp 89))), none⟩,
       ⟨(some 90), (.val (.extract (.tmp 86) 0)), none⟩,
       ⟨(some 91), (.val (.extract (.tmp 86) 1)), none⟩,
       ⟨(some 9), (.val (.mov (.tmp 90))), none⟩,
       ⟨(some 10), (.val (.mov (.tmp 91))), none⟩])
     (.seq
      (.region [⟨(some 92), (.val (.mov (.tmp 10))), none⟩,
        ⟨(some 93), (.val (.un .not (.tmp 92))), none⟩,
        ⟨(some 94), (.val (.mov (.tmp 93))), none⟩,
        ⟨(some 95), (.val (.mov (.tmp 9))), (some (94, false))⟩,
        ⟨(some 96), (.val (.faddr 0 (.tmp 6))), (some (94, false))⟩,
        ⟨(some 97), (.val (.load none (.tmp 96))), (some (94, false))⟩,
        ⟨(some 98), (.val (.mov (.tmp 8))), (some (94, false))⟩,
        ⟨(some 99), (.val (.bin .sub (.tmp 98) (.const (.int .i64 1)))), (some (94, false))⟩,
        ⟨(some 100), (.val (.iaddr 1 (.tmp 97) (.tmp 99))), (some (94, false))⟩,
        ⟨(some 101), (.val (.load none (.tmp 100))), (some (94, false))⟩,
        ⟨(some 102), (.call (.const (.func 11 [] [])) [(.tmp 95), (.tmp 101)]), (some (94, false))⟩,
        ⟨(some 103), (.val (.un .not (.tmp 102))), (some (94, false))⟩,
        ⟨(some 104), (.val (.pick (.tmp 94) (.const (.bool true)) (.tmp 103))), none⟩])
      (.cond (.tmp 104)
       (.seq
        (.region [⟨(some 4), (.val (.mov (.const (.bool false)))), none⟩])
        .ret)
       .skip))))
   (.region [⟨(some 84), (.val (.mov (.tmp 8))), none⟩,
     ⟨(some 85), (.val (.bin .add (.tmp 84) (.const (.int .i64 1)))), none⟩,
     ⟨(some 8), (.val (.mov (.tmp 85))), none⟩])))
def F5 : IFun :=
 ⟨106,
 (.seq
  (.region [⟨(some 4), (.val (.mov (.const (.bool false)))), none⟩])
  (.seq
   (.seq
    (.region [⟨(some 11), (.val (.mov (.tmp 1))), none⟩,
      ⟨(some 12), (.val (.len (.tmp 11))), none⟩,
      ⟨(some 13), (.val (.bin .gtr (.tmp 12) (.const (.int .i64 60)))), none⟩,
      ⟨(some 14), (.val (.mov (.tmp 13))), none⟩,
      ⟨(some 15), (.val (.mov (.tmp 0))), (some (14, false))⟩,
      ⟨(some 16), (.val (.bin .gtr (.tmp 15) (.const (.int .i64 2000)))), (some (14, false))⟩,
      ⟨(some 17), (.val (.mov (.tmp 16))), (some (14, false))⟩,
      ⟨(some 18), (.val (.mov (.tmp 0))), (some (17, true))⟩,
      ⟨(some 19), (.val (.bin .leq (.tmp 18) (.const (.int .i64 1048576)))), (some (17, true))⟩,
      ⟨(some 20), (.val (.pick (.tmp 17) (.tmp 19) (.const (.bool false)))), (some (14, false))⟩,
      ⟨(some 21), (.val (.pick (.tmp 14) (.const (.bool true)) (.tmp 20))), none⟩])
    (.cond (.tmp 21)
     (.seq
      (.region [⟨(some 22), (.call (.const (.func 6 [] [])) []), none⟩,
        ⟨(some 4), (.val (.mov (.tmp 22))), none⟩])
      .ret)
     .skip))
   (.seq
    (.region [⟨(some 23), (.val (.mov (.tmp 0))), none⟩,
      ⟨(some 24), (.call (.const (.func 7 [] [])) [(.tmp 23)]), none⟩,
      ⟨(some 5), (.val (.mov (.tmp 24))), none⟩])
    (.seq
     (.seq
      (.region [⟨(some 25), (.val (.mov (.tmp 0))), none⟩,
        ⟨(some 26), (.call (.const (.func 17 [] [])) [(.tmp 25)]), none⟩,
        ⟨(some 27), (.val (.un .not (.tmp 26))), none⟩])
      (.cond (.tmp 27)
       (.seq
        (.region [⟨(some 28), (.val (.mov (.tmp 5))), none⟩,
          ⟨(some 29), (.val (.eq false (.prim 3) (.tmp 28) (.const .nilptr))), none⟩,
          ⟨(some 30), (.val (.mov (.tmp 29))), none⟩,
          ⟨(some 31), (.val (.mov (.tmp 5))), (some (30, true))⟩,
          ⟨(some 32), (.call (.const (.func 15 [] [])) [(.tmp 31)]), (some (30, true))⟩,
          ⟨(some 33), (.val (.mov (.tmp 5))), (some (30, true))⟩,
          ⟨(some 34), (.call (.const (.func 16 [] [])) [(.tmp 33)]), (some (30, true))⟩,
          ⟨(some 35), (.val (.bin .add (.tmp 32) (.tmp 34))), (some (30, true))⟩,
          ⟨(some 36), (.val (.eq false (.prim 1) (.tmp 35) (.const (.int .i64 0)))), (some (30, true))⟩,
          ⟨(some 37), (.val (.pick (.tmp 30) (.tmp 36) (.const (.bool false)))), none⟩,
          ⟨(some 38), (.val (.mov (.tmp 37))), none⟩,
          ⟨(some 39), (.call (.const (.func 6 [] [])) []), (some (38, true))⟩,
          ⟨(some 40), (.val (.pick (.tmp 38) (.tmp 39) (.const (.bool false)))), none⟩,
          ⟨(some 4), (.val (.mov (.tmp 40))), none⟩])
        .ret)
       .skip))
     (.seq
      (.region [⟨(some 41), (.val (.mov (.tmp 0))), none⟩,
        ⟨(some 42), (.val (.build [.nilslice, (.int .i64 0)] [(1, 1, (.tmp 41))])), none⟩,
        ⟨(some 6), (.val (.alloc 44 [.nilslice, (.int .i64 0)])), none⟩,
        ⟨none, (.val (.store 2 (.tmp 6) (.tmp 42))), none⟩])
      (.seq
       (.seq
        (.region [⟨(some 7), (.val (.mov (.const (.int .i64 0)))), none⟩])
        (.block 0
         (.loop F5l0)))
       (.seq
        (.seq
         (.region [⟨(some 8), (.val (.mov (.const (.int .i64 1)))), none⟩])
         (.block 2
          (.loop F5l1)))
        (.seq
         (.region [⟨(some 105), (.call (.const (.func 6 [] [])) []), none⟩,
           ⟨(some 4), (.val (.mov (.tmp 105))), none⟩])
         .ret)))))))),
 [.tmp 4]⟩
theorem ok5 : cFun Try.prog G Try.f5 = some F5 := by kernel_rfl

/- balustrade/balustradelaw12.works -/
def F6 : IFun :=
 ⟨53,
 (.seq
  (.region [⟨(some 0), (.val (.mov (.const (.bool false)))), none⟩])
  (.seq
   (.region [⟨(some 8), (.call (.const (.func 7 [] [])) [(.const (.int .i64 5))]), none⟩,
     ⟨(some 1), (.val (.mov (.tmp 8))), none⟩])
   (.seq
    (.region [⟨(some 10), (.val (.mov (.tmp 1))), none⟩,
      ⟨(some 11), (.call (.const (.func 12 [] [])) [(.tmp 10), (.const (.int .i64 2))]), none⟩,
      ⟨(some 9), (.val (.mov (.tmp 11))), none⟩,
      ⟨(some 12), (.val (.extract (.tmp 9) 0)), none⟩,
      ⟨(some 13), (.val (.extract (.tmp 9) 1)), none⟩,
      ⟨(some 2), (.val (.mov (.tmp 12))), none⟩,
      ⟨(some 3), (.val (.mov (.tmp 13))), none⟩])
    (.seq
     (.region [⟨(some 15), (.val (.mov (.tmp 1))), none⟩,
       ⟨(some 16), (.call (.const (.func 12 [] [])) [(.tmp 15), (.const (.int .i64 2))]), none⟩,
       ⟨(some 14), (.val (.mov (.tmp 16))), none⟩,
       ⟨(some 17), (.val (.extract (.tmp 14) 0)), none⟩,
       ⟨(some 18), (.val (.extract (.tmp 14) 1)), none⟩,
       ⟨(some 4), (.val (.mov (.tmp 17))), none⟩,
       ⟨(some 5), (.val (.mov (.tmp 18))), none⟩])
     (.seq
      (.region [⟨(some 20), (.val (.mov (.tmp 1))), none⟩,
        ⟨(some 21), (.call (.const (.func 12 [] [])) [(.tmp 20), (.const (.int .i64 1))]), none⟩,
        ⟨(some 19), (.val (.mov (.tmp 21))), none⟩,
        ⟨(some 22), (.val (.extract (.tmp 19) 0)), none⟩,
        ⟨(some 23), (.val (.extract (.tmp 19) 1)), none⟩,
        ⟨(some 6), (.val (.mov (.tmp 22))), none⟩,
        ⟨(some 7), (.val (.mov (.tmp 23))), none⟩])
      (.seq
       (.region [⟨(some 24), (.val (.mov (.tmp 2))), none⟩,
         ⟨(some 25), (.val (.eq false (.prim 1) (.tmp 24) (.const (.int .i64 1)))), none⟩,
         ⟨(some 26), (.val (.mov (.tmp 25))), none⟩,
         ⟨(some 27), (.val (.mov (.tmp 3))), (some (26, true))⟩,
         ⟨(some 28), (.val (.pick (.tmp 26) (.tmp 27) (.const (.bool false)))), none⟩,
         ⟨(some 29), (.val (.mov (.tmp 28))), none⟩,
         ⟨(some 30), (.val (.mov (.tmp 4))), (some (29, true))⟩,
         ⟨(some 31), (.val (.eq false (.prim 1) (.tmp 30) (.const (.int .i64 0)))), (some (29, true))⟩,
         ⟨(some 32), (.val (.pick (.tmp 29) (.tmp 31) (.const (.bool false)))), none⟩,
         ⟨(some 33), (.val (.mov (.tmp 32))), none⟩,
         ⟨(some 34), (.val (.mov (.tmp 5))), (some (33, true))⟩,
         ⟨(some 35), (.val (.un .not (.tmp 34))), (some (33, true))⟩,
         ⟨(some 36), (.val (.pick (.tmp 33) (.tmp 35) (.const (.bool false)))), none⟩,
         ⟨(some 37), (.val (.mov (.tmp 36))), none⟩,
         ⟨(some 38), (.val (.mov (.tmp 6))), (some (37, true))⟩,
         ⟨(some 39), (.val (.eq false (.prim 1) (.tmp 38) (.const (.int .i64 2)))), (some (37, true))⟩,
         ⟨(some 40), (.val (.pick (.tmp 37) (.tmp 39) (.const (.bool false)))), none⟩,
         ⟨(some 41), (.val (.mov (.tmp 40))), none⟩,
         ⟨(some 42), (.val (.mov (.tmp 7))), (some (41, true))⟩,
         ⟨(some 43), (.val (.pick (.tmp 41) (.tmp 42) (.const (.bool false)))), none⟩,
         ⟨(some 44), (.val (.mov (.tmp 43))), none⟩,
         ⟨(some 45), (.val (.mov (.tmp 1))), (some (44, true))⟩,
         ⟨(some 46), (.call (.const (.func 16 [] [])) [(.tmp 45)]), (some (44, true))⟩,
         ⟨(some 47), (.val (.eq false (.prim 1) (.tmp 46) (.const (.int .i64 5)))), (some (44, true))⟩,
         ⟨(some 48), (.val (.pick (.tmp 44) (.tmp 47) (.const (.bool false)))), none⟩,
         ⟨(some 49), (.val (.mov (.tmp 48))), none⟩,
         ⟨(some 50), (.call (.const (.func 7 [] [])) [(.const (.int .i64 (-1)))]), (some (49, true))⟩,
         ⟨(some 51), (.val (.eq false (.prim 3) (.tmp 50) (.const .nilptr))), (some (49, true))⟩,
         ⟨(some 52), (.val (.pick (.tmp 49) (.tmp 51) (.const (.bool false)))), none⟩,
         ⟨(some 0), (.val (.mov (.tmp 52))), none⟩])
       .ret)))))),
 [.tmp 0]⟩
theorem ok6 : cFun Try.prog G Try.f6 = some F6 := by kernel_rfl

/- balustrade/heap.New -/
def F7 : IFun :=
 ⟨12,
 (.seq
  (.region [⟨(some 2), (.val (.mov (.const .nilptr))), none⟩])
  (.seq
   (.seq
    (.region [⟨(some 3), (.val (.mov (.tmp 0))), none⟩,
      ⟨(some 4), (.val (.bin .lss (.tmp 3) (.const (.int .i64 0)))), none⟩,
      ⟨(some 5), (.val (.mov (.tmp 4))), none⟩,
      ⟨(some 6), (.val (.mov (.tmp 0))), (some (5, false))⟩,
      ⟨(some 7), (.val (.bin .gtr (.tmp 6) (.const (.int .i64 1048576)))), (some (5, false))⟩,
      ⟨(some 8), (.val (.pick (.tmp 5) (.const (.bool true)) (.tmp 7))), none⟩])
    (.cond (.tmp 8)
     (.seq
      (.region [⟨(some 2), (.val (.mov (.const .nilptr))), none⟩])
      .ret)
     .skip))
   (.seq
    (.region [⟨(some 9), (.val (.mov (.tmp 0))), none⟩,
      ⟨(some 10), (.val (.build [.nilslice, .nilslice, (.int .i64 0), (.int .i64 0), (.bool false)] [(2, 1, (.tmp 9)), (4, 1, (.const (.bool true)))])), none⟩,
      ⟨(some 11), (.val (.box 36 (.tmp 10))), none⟩,
      ⟨(some 2), (.val (.mov (.tmp 11))), none⟩])
    .ret))),
 [.tmp 2]⟩
theorem ok7 : cFun Try.prog G Try.f7 = some F7 := by kernel_rfl

/- (*balustrade/heap.Heap).Put -/
def F8 : IFun :=
 ⟨28,
 (.seq
  (.region [⟨(some 4), (.val (.mov (.const (.int .i64 0)))), none⟩,
    ⟨(some 5), (.val (.mov (.const (.bool false)))), none⟩])
  (.seq
   (.region [⟨(some 9), (.val (.mov (.tmp 0))), none⟩,
     ⟨(some 10), (.val (.mov (.tmp 1))), none⟩,
     ⟨(some 11), (.val (.len (.tmp 10))), none⟩,
     ⟨(some 12), (.call (.const (.func 12 [] [])) [(.tmp 9), (.tmp 11)]), none⟩,
     ⟨(some 8), (.val (.mov (.tmp 12))), none⟩,
     ⟨(some 13), (.val (.extract (.tmp 8) 0)), none⟩,
     ⟨(some 14), (.val (.extract (.tmp 8) 1)), none⟩,
     ⟨(some 6), (.val (.mov (.tmp 13))), none⟩,
     ⟨(some 7), (.val (.mov (.tmp 14))), none⟩])
   (.seq
    (.seq
     (.region [⟨(some 15), (.val (.mov (.tmp 7))), none⟩])
     (.cond (.tmp 15)
      (.region [⟨(some 16), (.val (.mov (.tmp 0))), none⟩,
        ⟨(some 17), (.val (.nilck (.tmp 16))), none⟩,
        ⟨(some 18), (.val (.faddr 1 (.tmp 17))), none⟩,
        ⟨(some 19), (.val (.load none (.tmp 18))), none⟩,
        ⟨(some 20), (.val (.mov (.tmp 6))), none⟩,
        ⟨(some 21), (.val (.bin .sub (.tmp 20) (.const (.int .i64 1)))), none⟩,
        ⟨(some 22), (.val (.iaddr 1 (.tmp 19) (.tmp 21))), none⟩,
        ⟨(some 23), (.val (.load none (.tmp 22))), none⟩,
        ⟨(some 24), (.val (.mov (.tmp 1))), none⟩,
        ⟨(some 25), (.val (.copy 1 (.tmp 23) (.tmp 24))), none⟩])
      .skip))
    (.seq
     (.region [⟨(some 26), (.val (.mov (.tmp 6))), none⟩,
       ⟨(some 27), (.val (.mov (.tmp 7))), none⟩,
       ⟨(some 4), (.val (.mov (.tmp 26))), none⟩,
       ⟨(some 5), (.val (.mov (.tmp 27))), none⟩])
     .ret)))),
 [.tmp 4, .tmp 5]⟩
theorem ok8 : cFun Try.prog G Try.f8 = some F8 := by kernel_rfl

/- (*balustrade/heap.Heap).Cells -/
def F9 : IFun :=
 ⟨17,
 (.seq
  (.region [⟨(some 4), (.val (.mov (.const .nilslice))), none⟩,
    ⟨(some 5), (.val (.mov (.const (.bool false)))), none⟩])
  (.seq
   (.region [⟨(some 9), (.val (.mov (.tmp 0))), none⟩,
     ⟨(some 10), (.val (.mov (.tmp 1))), none⟩,
     ⟨(some 11), (.call (.const (.func 20 [] [])) [(.tmp 9), (.tmp 10)]), none⟩,
     ⟨(some 8), (.val (.mov (.tmp 11))), none⟩,
     ⟨(some 12), (.val (.extract (.tmp 8) 0)), none⟩,
     ⟨(some 13), (.val (.extract (.tmp 8) 1)), none⟩,
     ⟨(some 6), (.val (.mov (.tmp 12))), none⟩,
     ⟨(some 7), (.val (.mov (.tmp 13))), none⟩])
   (.seq
    (.region [⟨(some 14), (.val (.mov (.tmp 6))), none⟩,
      ⟨(some 15), (.call (.const (.func 21 [] [])) [(.tmp 14)]), none⟩,
      ⟨(some 16), (.val (.mov (.tmp 7))), none⟩,
      ⟨(some 4), (.val (.mov (.tmp 15))), none⟩,
      ⟨(some 5), (.val (.mov (.tmp 16))), none⟩])
    .ret))),
 [.tmp 4, .tmp 5]⟩
theorem ok9 : cFun Try.prog G Try.f9 = some F9 := by kernel_rfl

/- (*balustrade/heap.Heap).Set -/
def F10 : IFun :=
 ⟨29,
 (.seq
  (.region [⟨(some 8), (.val (.mov (.const (.bool false)))), none⟩])
  (.seq
   (.region [⟨(some 12), (.val (.mov (.tmp 0))), none⟩,
     ⟨(some 13), (.val (.mov (.tmp 1))), none⟩,
     ⟨(some 14), (.call (.const (.func 20 [] [])) [(.tmp 12), (.tmp 13)]), none⟩,
     ⟨(some 11), (.val (.mov (.tmp 14))), none⟩,
     ⟨(some 15), (.val (.extract (.tmp 11) 0)), none⟩,
     ⟨(some 16), (.val (.extract (.tmp 11) 1)), none⟩,
     ⟨(some 9), (.val (.mov (.tmp 15))), none⟩,
     ⟨(some 10), (.val (.mov (.tmp 16))), none⟩])
   (.seq
    (.seq
     (.region [⟨(some 17), (.val (.mov (.tmp 2))), none⟩,
       ⟨(some 18), (.val (.bin .lss (.tmp 17) (.const (.int .i64 0)))), none⟩,
       ⟨(some 19), (.val (.mov (.tmp 18))), none⟩,
       ⟨(some 20), (.val (.mov (.tmp 2))), (some (19, false))⟩,
       ⟨(some 21), (.val (.mov (.tmp 9))), (some (19, false))⟩,
       ⟨(some 22), (.val (.len (.tmp 21))), (some (19, false))⟩,
       ⟨(some 23), (.val (.bin .geq (.tmp 20) (.tmp 22))), (some (19, false))⟩,
       ⟨(some 24), (.val (.pick (.tmp 19) (.const (.bool true)) (.tmp 23))), none⟩])
     (.cond (.tmp 24)
      (.seq
       (.region [⟨(some 8), (.val (.mov (.const (.bool false)))), none⟩])
       .ret)
      .skip))
    (.seq
     (.region [⟨(some 25), (.val (.mov (.tmp 9))), none⟩,
       ⟨(some 26), (.val (.mov (.tmp 2))), none⟩,
       ⟨(some 27), (.val (.mov (.tmp 3))), none⟩,
       ⟨(some 28), (.val (.iaddr 1 (.tmp 25) (.tmp 26))), none⟩,
       ⟨none, (.val (.store 1 (.tmp 28) (.tmp 27))), none⟩])
     (.seq
      (.region [⟨(some 8), (.val (.mov (.const (.bool true)))), none⟩])
      .ret))))),
 [.tmp 8]⟩
theorem ok10 : cFun Try.prog G Try.f10 = some F10 := by kernel_rfl

/- balustrade/balustradebase.SameInts -/
def F11l0 : ICode :=
 (.seq
  (.seq
   (.region [⟨(some 11), (.val (.mov (.tmp 5))), none⟩,
     ⟨(some 12), (.val (.mov (.tmp 0))), none⟩,
     ⟨(some 13), (.val (.len (.tmp 12))), none⟩,
     ⟨(some 14), (.val (.bin .lss (.tmp 11) (.tmp 13))), none⟩])
   (.cond (.tmp 14)
    .skip
    (.exit 0)))
  (.seq
   (.block 1
    (.seq
     (.draw [⟨(some 17), (.val (.mov (.tmp 0))), none⟩,
       ⟨(some 18), (.val (.mov (.tmp 5))), none⟩,
       ⟨(some 19), (.val (.iaddr 1 (.tmp 17) (.tmp 18))), none⟩,
       ⟨(some 20), (.val (.load none (.tmp 19))), none⟩,
       ⟨(some 21), (.val (.mov (.tmp 1))), none⟩,
       ⟨(some 22), (.val (.mov (.tmp 5))), none⟩,
       ⟨(some 23), (.val (.iaddr 1 (.tmp 21) (.tmp 22))), none⟩,
       ⟨(some 24), (.val (.load none (.tmp 23))), none⟩,
       ⟨(some 25), (.val (.eq true (.prim 1) (.tmp 20) (.tmp 24))), none⟩] [])
     (.cond (.tmp 25)
      (.seq
       (.region [⟨(some 4), (.val (.mov (.const (.bool false)))), none⟩])
       .ret)
      .skip)))
   (.region [⟨(some 15), (.val (.mov (.tmp 5))), none⟩,
     ⟨(some 16), (.val (.bin .add (.tmp 15) (.const (.int .i64 1)))), none⟩,
     ⟨(some 5), (.val (.mov (.tmp 16))), none⟩])))
def F11 : IFun :=
 ⟨26,
 (.seq
  (.region [⟨(some 4), (.val (.mov (.const (.bool false)))), none⟩])
  (.seq
   (.seq
    (.region [⟨(some 6), (.val (.mov (.tmp 0))), none⟩,
      ⟨(some 7), (.val (.len (.tmp 6))), none⟩,
      ⟨(some 8), (.val (.mov (.tmp 1))), none⟩,
      ⟨(some 9), (.val (.len (.tmp 8))), none⟩,
      ⟨(some 10), (.val (.eq true (.prim 1) (.tmp 7) (.tmp 9))), none⟩])
    (.cond (.tmp 10)
     (.seq
      (.region [⟨(some 4), (.val (.mov (.const (.bool false)))), none⟩])
      .ret)
     .skip))
   (.seq
    (.seq
     (.region [⟨(some 5), (.val (.mov (.const (.int .i64 0)))), none⟩])
     (.block 0
      (.loop F11l0)))
    (.seq
     (.region [⟨(some 4), (.val (.mov (.const (.bool true)))), none⟩])
     .ret)))),
 [.tmp 4]⟩
theorem ok11 : cFun Try.prog G Try.f11 = some F11 := by kernel_rfl

/- (*balustrade/heap.Heap).Make -/
def F12 : IFun :=
 ⟨101,
 (.seq
  (.region [⟨(some 4), (.val (.mov (.const (.int .i64 0)))), none⟩,
    ⟨(some 5), (.val (.mov (.const (.bool false)))), none⟩])
  (.seq
   (.seq
    (.draw [⟨(some 8), (.val (.mov (.tmp 0))), none⟩,
      ⟨(some 9), (.val (.eq false (.prim 3) (.tmp 8) (.const .nilptr))), none⟩,
      ⟨(some 10), (.val (.mov (.tmp 9))), none⟩,
      ⟨(some 11), (.val (.mov (.tmp 0))), (some (10, false))⟩,
      ⟨(some 12), (.val (.nilck (.tmp 11))), (some (10, false))⟩,
      ⟨(some 13), (.val (.faddr 4 (.tmp 12))), (some (10, false))⟩,
      ⟨(some 14), (.val (.load none (.tmp 13))), (some (10, false))⟩,
      ⟨(some 15), (.val (.un .not (.tmp 14))), (some (10, false))⟩,
      ⟨(some 16), (.val (.pick (.tmp 10) (.const (.bool true)) (.tmp 15))), none⟩,
      ⟨(some 17), (.val (.mov (.tmp 16))), none⟩,
      ⟨(some 18), (.val (.mov (.tmp 1))), (some (17, false))⟩,
      ⟨(some 19), (.val (.bin .lss (.tmp 18) (.const (.int .i64 0)))), (some (17, false))⟩,
      ⟨(some 20), (.val (.pick (.tmp 17) (.const (.bool true)) (.tmp 19))), none⟩,
      ⟨(some 21), (.val (.mov (.tmp 20))), none⟩,
      ⟨(some 22), (.val (.mov (.tmp 1))), (some (21, false))⟩,
      ⟨(some 23), (.val (.mov (.tmp 0))), (some (21, false))⟩,
      ⟨(some 24), (.val (.nilck (.tmp 23))), (some (21, false))⟩,
      ⟨(some 25), (.val (.faddr 2 (.tmp 24))), (some (21, false))⟩,
      ⟨(some 26), (.val (.load none (.tmp 25))), (some (21, false))⟩,
      ⟨(some 27), (.val (.mov (.tmp 0))), (some (21, false))⟩,
      ⟨(some 28), (.val (.nilck (.tmp 27))), (some (21, false))⟩,
      ⟨(some 29), (.val (.faddr 3 (.tmp 28))), (some (21, false))⟩,
      ⟨(some 30), (.val (.load none (.tmp 29))), (some (21, false))⟩,
      ⟨(some 31), (.val (.bin .sub (.tmp 26) (.tmp 30))), (some (21, false))⟩,
      ⟨(some 32), (.val (.bin .geq (.tmp 22) (.tmp 31))), (some (21, false))⟩,
      ⟨(some 33), (.val (.pick (.tmp 21) (.const (.bool true)) (.tmp 32))), none⟩] [])
    (.cond (.tmp 33)
     (.seq
      (.region [⟨(some 4), (.val (.mov (.const (.int .i64 0)))), none⟩,
        ⟨(some 5), (.val (.mov (.const (.bool false)))), none⟩])
      .ret)
     .skip))
   (.seq
    (.seq
     (.draw [⟨(some 34), (.val (.mov (.tmp 1))), none⟩,
       ⟨(some 35), (.val (.mov (.tmp 0))), none⟩,
       ⟨(some 36), (.val (.nilck (.tmp 35))), none⟩,
       ⟨(some 37), (.val (.faddr 0 (.tmp 36))), none⟩,
       ⟨(some 38), (.val (.load none (.tmp 37))), none⟩,
       ⟨(some 39), (.val (.cap (.tmp 38))), none⟩,
       ⟨(some 40), (.val (.mov (.tmp 0))), none⟩,
       ⟨(some 41), (.val (.nilck (.tmp 40))), none⟩,
       ⟨(some 42), (.val (.faddr 0 (.tmp 41))), none⟩,
       ⟨(some 43), (.val (.load none (.tmp 42))), none⟩,
       ⟨(some 44), (.val (.len (.tmp 43))), none⟩,
       ⟨(some 45), (.val (.bin .sub (.tmp 39) (.tmp 44))), none⟩,
       ⟨(some 46), (.val (.bin .gtr (.tmp 34) (.tmp 45))), none⟩] [])
     (.cond (.tmp 46)
      (.region [⟨(some 47), (.val (.mov (.tmp 0))), none⟩,
        ⟨(some 48), (.val (.mov (.tmp 1))), none⟩,
        ⟨(some 49), (.val (.max [(.tmp 48), (.const (.int .i64 64))])), none⟩,
        ⟨(some 50), (.val (.mkslice 3 1 [(.int .i64 0)] (.const (.int .i64 0)) (.tmp 49))), none⟩,
        ⟨(some 51), (.val (.nilck (.tmp 47))), none⟩,
        ⟨(some 52), (.val (.faddr 0 (.tmp 51))), none⟩,
        ⟨none, (.val (.store 1 (.tmp 52) (.tmp 50))), none⟩])
      .skip))
    (.seq
     (.region [⟨(some 53), (.val (.mov (.tmp 0))), none⟩,
       ⟨(some 54), (.val (.nilck (.tmp 53))), none⟩,
       ⟨(some 55), (.val (.faddr 0 (.tmp 54))), none⟩,
       ⟨(some 56), (.val (.load none (.tmp 55))), none⟩,
       ⟨(some 57), (.val (.len (.tmp 56))), none⟩,
       ⟨(some 6), (.val (.mov (.tmp 57))), none⟩])
     (.seq
      (.region [⟨(some 58), (.val (.mov (.tmp 6))), none⟩,
        ⟨(some 59), (.val (.mov (.tmp 1))), none⟩,
        ⟨(some 60), (.val (.bin .add (.tmp 58) (.tmp 59))), none⟩,
        ⟨(some 7), (.val (.mov (.tmp 60))), none⟩])
      (.seq
       (.region [⟨(some 61), (.val (.mov (.tmp 0))), none⟩,
         ⟨(some 62), (.val (.mov (.tmp 0))), none⟩,
         ⟨(some 63), (.val (.nilck (.tmp 62))), none⟩,
         ⟨(some 64), (.val (.faddr 0 (.tmp 63))), none⟩,
         ⟨(some 65), (.val (.load none (.tmp 64))), none⟩,
         ⟨(some 66), (.val (.mov (.tmp 7))), none⟩,
         ⟨(some 67), (.val (.slsl 1 (.tmp 65) none (some (.tmp 66)) none)), none⟩,
         ⟨(some 68), (.val (.nilck (.tmp 61))), none⟩,
         ⟨(some 69), (.val (.faddr 0 (.tmp 68))), none⟩,
         ⟨none, (.val (.store 1 (.tmp 69) (.tmp 67))), none⟩])
       (.seq
        (.draw [⟨(some 70), (.val (.mov (.tmp 0))), none⟩,
          ⟨(some 71), (.val (.mov (.tmp 0))), none⟩,
          ⟨(some 72), (.val (.nilck (.tmp 71))), none⟩,
          ⟨(some 73), (.val (.faddr 1 (.tmp 72))), none⟩,
          ⟨(some 74), (.val (.load none (.tmp 73))), none⟩,
          ⟨(some 75), (.val (.mov (.tmp 0))), none⟩,
          ⟨(some 76), (.val (.nilck (.tmp 75))), none⟩,
          ⟨(some 77), (.val (.faddr 0 (.tmp 76))), none⟩,
          ⟨(some 78), (.val (.load none (.tmp 77))), none⟩,
          ⟨(some 79), (.val (.mov (.tmp 6))), none⟩,
          ⟨(some 80), (.val (.mov (.tmp 7))), none⟩,
          ⟨(some 81), (.val (.mov (.tmp 7))), none⟩,
          ⟨(some 82), (.val (.slsl 1 (.tmp 78) (some (.tmp 79)) (some (.tmp 80)) (some (.tmp 81)))), none⟩,
          ⟨(some 83), (.val (.bslice 27 1 1 [.nilslice] [(0, (.tmp 82))])), none⟩,
          ⟨(some 84), (.val (.append 27 1 24 (.tmp 74) (.tmp 83))), none⟩,
          ⟨(some 85), (.val (.nilck (.tmp 70))), none⟩,
          ⟨(some 86), (.val (.faddr 1 (.tmp 85))), none⟩,
          ⟨none, (.val (.store 1 (.tmp 86) (.tmp 84))), none⟩] [(4, 12)])
        (.seq
         (.region [⟨(some 87), (.val (.mov (.tmp 0))), none⟩,
           ⟨(some 88), (.val (.nilck (.tmp 87))), none⟩,
           ⟨(some 89), (.val (.faddr 3 (.tmp 88))), none⟩,
           ⟨(some 90), (.val (.load none (.tmp 89))), none⟩,
           ⟨(some 91), (.val (.mov (.tmp 1))), none⟩,
           ⟨(some 92), (.val (.bin .add (.tmp 91) (.const (.int .i64 1)))), none⟩,
           ⟨(some 93), (.val (.bin .add (.tmp 90) (.tmp 92))), none⟩,
           ⟨(some 94), (.val (.nilck (.tmp 87))), none⟩,
           ⟨(some 95), (.val (.faddr 3 (.tmp 94))), none⟩,
           ⟨none, (.val (.store 1 (.tmp 95) (.tmp 93))), none⟩])
         (.seq
          (.region [⟨(some 96), (.val (.mov (.tmp 0))), none⟩,
            ⟨(some 97), (.val (.nilck (.tmp 96))), none⟩,
            ⟨(some 98), (.val (.faddr 1 (.tmp 97))), none⟩,
            ⟨(some 99), (.val (.load none (.tmp 98))), none⟩,
            ⟨(some 100), (.val (.len (.tmp 99))), none⟩,
            ⟨(some 4), (.val (.mov (.tmp 100))), none⟩,
            ⟨(some 5), (.val (.mov (.const (.bool true)))), none⟩])
          .ret))))))))),
 [.tmp 4, .tmp 5]⟩
theorem ok12 : cFun Try.prog G Try.f12 = some F12 := by kernel_rfl

/- (*balustrade/heap.Heap).Len -/
def F13 : IFun :=
 ⟨17,
 (.seq
  (.region [⟨(some 4), (.val (.mov (.const (.int .i64 0)))), none⟩,
    ⟨(some 5), (.val (.mov (.const (.bool false)))), none⟩])
  (.seq
   (.region [⟨(some 9), (.val (.mov (.tmp 0))), none⟩,
     ⟨(some 10), (.val (.mov (.tmp 1))), none⟩,
     ⟨(some 11), (.call (.const (.func 20 [] [])) [(.tmp 9), (.tmp 10)]), none⟩,
     ⟨(some 8), (.val (.mov (.tmp 11))), none⟩,
     ⟨(some 12), (.val (.extract (.tmp 8) 0)), none⟩,
     ⟨(some 13), (.val (.extract (.tmp 8) 1)), none⟩,
     ⟨(some 6), (.val (.mov (.tmp 12))), none⟩,
     ⟨(some 7), (.val (.mov (.tmp 13))), none⟩])
   (.seq
    (.region [⟨(some 14), (.val (.mov (.tmp 6))), none⟩,
      ⟨(some 15), (.val (.len (.tmp 14))), none⟩,
      ⟨(some 16), (.val (.mov (.tmp 7))), none⟩,
      ⟨(some 4), (.val (.mov (.tmp 15))), none⟩,
      ⟨(some 5), (.val (.mov (.tmp 16))), none⟩])
    .ret))),
 [.tmp 4, .tmp 5]⟩
theorem ok13 : cFun Try.prog G Try.f13 = some F13 := by kernel_rfl

/- (*balustrade/heap.Heap).Get -/
def F14 : IFun :=
 ⟨28,
 (.seq
  (.region [⟨(some 6), (.val (.mov (.const (.int .i64 0)))), none⟩,
    ⟨(some 7), (.val (.mov (.const (.bool false)))), none⟩])
  (.seq
   (.region [⟨(some 11), (.val (.mov (.tmp 0))), none⟩,
     ⟨(some 12), (.val (.mov (.tmp 1))), none⟩,
     ⟨(some 13), (.call (.const (.func 20 [] [])) [(.tmp 11), (.tmp 12)]), none⟩,
     ⟨(some 10), (.val (.mov (.tmp 13))), none⟩,
     ⟨(some 14), (.val (.extract (.tmp 10) 0)), none⟩,
     ⟨(some 15), (.val (.extract (.tmp 10) 1)), none⟩,
     ⟨(some 8), (.val (.mov (.tmp 14))), none⟩,
     ⟨(some 9), (.val (.mov (.tmp 15))), none⟩])
   (.seq
    (.seq
     (.region [⟨(some 16), (.val (.mov (.tmp 2))), none⟩,
       ⟨(some 17), (.val (.bin .lss (.tmp 16) (.const (.int .i64 0)))), none⟩,
       ⟨(some 18), (.val (.mov (.tmp 17))), none⟩,
       ⟨(some 19), (.val (.mov (.tmp 2))), (some (18, false))⟩,
       ⟨(some 20), (.val (.mov (.tmp 8))), (some (18, false))⟩,
       ⟨(some 21), (.val (.len (.tmp 20))), (some (18, false))⟩,
       ⟨(some 22), (.val (.bin .geq (.tmp 19) (.tmp 21))), (some (18, false))⟩,
       ⟨(some 23), (.val (.pick (.tmp 18) (.const (.bool true)) (.tmp 22))), none⟩])
     (.cond (.tmp 23)
      (.seq
       (.region [⟨(some 6), (.val (.mov (.const (.int .i64 0)))), none⟩,
         ⟨(some 7), (.val (.mov (.const (.bool false)))), none⟩])
       .ret)
      .skip))
    (.seq
     (.region [⟨(some 24), (.val (.mov (.tmp 8))), none⟩,
       ⟨(some 25), (.val (.mov (.tmp 2))), none⟩,
       ⟨(some 26), (.val (.iaddr 1 (.tmp 24) (.tmp 25))), none⟩,
       ⟨(some 27), (.val (.load none (.tmp 26))), none⟩,
       ⟨(some 6), (.val (.mov (.tmp 27))), none⟩,
       ⟨(some 7), (.val (.mov (.const (.bool true)))), none⟩])
     .ret)))),
 [.tmp 6, .tmp 7]⟩
theorem ok14 : cFun Try.prog G Try.f14 = some F14 := by kernel_rfl

/- (*balustrade/heap.Heap).Count -/
def F15 : IFun :=
 ⟨10,
 (.seq
  (.region [⟨(some 2), (.val (.mov (.const (.int .i64 0)))), none⟩])
  (.seq
   (.seq
    (.region [⟨(some 3), (.val (.mov (.tmp 0))), none⟩,
      ⟨(some 4), (.val (.eq false (.prim 3) (.tmp 3) (.const .nilptr))), none⟩])
    (.cond (.tmp 4)
     (.seq
      (.region [⟨(some 2), (.val (.mov (.const (.int .i64 0)))), none⟩])
      .ret)
     .skip))
   (.seq
    (.region [⟨(some 5), (.val (.mov (.tmp 0))), none⟩,
      ⟨(some 6), (.val (.nilck (.tmp 5))), none⟩,
      ⟨(some 7), (.val (.faddr 1 (.tmp 6))), none⟩,
      ⟨(some 8), (.val (.load none (.tmp 7))), none⟩,
      ⟨(some 9), (.val (.len (.tmp 8))), none⟩,
      ⟨(some 2), (.val (.mov (.tmp 9))), none⟩])
    .ret))),
 [.tmp 2]⟩
theorem ok15 : cFun Try.prog G Try.f15 = some F15 := by kernel_rfl

/- (*balustrade/heap.Heap).Used -/
def F16 : IFun :=
 ⟨9,
 (.seq
  (.region [⟨(some 2), (.val (.mov (.const (.int .i64 0)))), none⟩])
  (.seq
   (.seq
    (.region [⟨(some 3), (.val (.mov (.tmp 0))), none⟩,
      ⟨(some 4), (.val (.eq false (.prim 3) (.tmp 3) (.const .nilptr))), none⟩])
    (.cond (.tmp 4)
     (.seq
      (.region [⟨(some 2), (.val (.mov (.const (.int .i64 0)))), none⟩])
      .ret)
     .skip))
   (.seq
    (.region [⟨(some 5), (.val (.mov (.tmp 0))), none⟩,
      ⟨(some 6), (.val (.nilck (.tmp 5))), none⟩,
      ⟨(some 7), (.val (.faddr 3 (.tmp 6))), none⟩,
      ⟨(some 8), (.val (.load none (.tmp 7))), none⟩,
      ⟨(some 2), (.val (.mov (.tmp 8))), none⟩])
    .ret))),
 [.tmp 2]⟩
theorem ok16 : cFun Try.prog G Try.f16 = some F16 := by kernel_rfl

/- balustrade/balustraderef12.May -/
def F17 : IFun :=
 ⟨9,
 (.seq
  (.region [⟨(some 2), (.val (.mov (.const (.bool false)))), none⟩])
  (.seq
   (.region [⟨(some 3), (.val (.mov (.tmp 0))), none⟩,
     ⟨(some 4), (.val (.bin .geq (.tmp 3) (.const (.int .i64 0)))), none⟩,
     ⟨(some 5), (.val (.mov (.tmp 4))), none⟩,
     ⟨(some 6), (.val (.mov (.tmp 0))), (some (5, true))⟩,
     ⟨(some 7), (.val (.bin .leq (.tmp 6) (.const (.int .i64 1048576)))), (some (5, true))⟩,
     ⟨(some 8), (.val (.pick (.tmp 5) (.tmp 7) (.const (.bool false)))), none⟩,
     ⟨(some 2), (.val (.mov (.tmp 8))), none⟩])
   .ret)),
 [.tmp 2]⟩
theorem ok17 : cFun Try.prog G Try.f17 = some F17 := by kernel_rfl

end Go.Proofs.Ythlbifjgnhdonaa.Ev
