/- The evaluator's code of the given functions, printed by program (EvPut); part 0. -/
import Derived.KernelRfl
import Derived.Test.YtonjfghdakmffaaChecked
import Derived.Test.YtonjfghdakmffaaEvCode
namespace Go.Proofs.Ytonjfghdakmffaa.Ev
open Go
def G : List Nat := [0]

/- balustrade/balustradelaw04.PlaceBack -/
def F3l0 : ICode :=
 (.seq
  (.seq
   (.region [⟨(some 26), (.val (.mov (.tmp 5))), none⟩,
     ⟨(some 27), (.val (.mov (.tmp 0))), none⟩,
     ⟨(some 28), (.val (.lenstr (.tmp 27))), none⟩,
     ⟨(some 29), (.val (.bin .leq (.tmp 26) (.tmp 28))), none⟩])
   (.cond (.tmp 29)
    .skip
    (.exit 0)))
  (.seq
   (.block 1
    (.seq
     (.region [⟨(some 33), (.val (.mov (.tmp 0))), none⟩,
       ⟨(some 34), (.val (.mov (.tmp 5))), none⟩,
       ⟨(some 35), (.call (.const (.func 6 [] [])) [(.tmp 33), (.tmp 34)]), none⟩,
       ⟨(some 32), (.val (.mov (.tmp 35))), none⟩,
       ⟨(some 36), (.val (.extract (.tmp 32) 0)), none⟩,
       ⟨(some 37), (.val (.extract (.tmp 32) 1)), none⟩,
       ⟨(some 38), (.val (.extract (.tmp 32) 2)), none⟩,
       ⟨(some 6), (.val (.mov (.tmp 36))), none⟩,
       ⟨(some 7), (.val (.mov (.tmp 37))), none⟩,
       ⟨(some 8), (.val (.mov (.tmp 38))), none⟩])
     (.seq
      (.region [⟨(some 40), (.val (.mov (.tmp 0))), none⟩,
        ⟨(some 41), (.val (.mov (.tmp 6))), none⟩,
        ⟨(some 42), (.val (.mov (.tmp 7))), none⟩,
        ⟨(some 43), (.call (.const (.func 7 [] [])) [(.tmp 40), (.tmp 41), (.tmp 42)]), none⟩,
        ⟨(some 39), (.val (.mov (.tmp 43))), none⟩,
        ⟨(some 44), (.val (.extract (.tmp 39) 0)), none⟩,
        ⟨(some 45), (.val (.extract (.tmp 39) 1)), none⟩,
        ⟨(some 9), (.val (.mov (.tmp 44))), none⟩,
        ⟨(some 10), (.val (.mov (.tmp 45))), none⟩])
      (.seq
       (.seq
        (.region [⟨(some 46), (.val (.mov (.tmp 8))), none⟩,
          ⟨(some 47), (.val (.un .not (.tmp 46))), none⟩,
          ⟨(some 48), (.val (.mov (.tmp 47))), none⟩,
          ⟨(some 49), (.val (.mov (.tmp 10))), (some (48, false))⟩,
          ⟨(some 50), (.val (.un .not (.tmp 49))), (some (48, false))⟩,
          ⟨(some 51), (.val (.pick (.tmp 48) (.const (.bool true)) (.tmp 50))), none⟩,
          ⟨(some 52), (.val (.mov (.tmp 51))), none⟩,
          ⟨(some 53), (.val (.mov (.tmp 9))), (some (52, false))⟩,
          ⟨(some 54), (.val (.mov (.tmp 5))), (some (52, false))⟩,
          ⟨(some 55), (.val (.eq true (.prim 1) (.tmp 53) (.tmp 54))), (some (52, false))⟩,
          ⟨(some 56), (.val (.pick (.tmp 52) (.const (.bool true)) (.tmp 55))), none⟩,
          ⟨(some 57), (.val (.mov (.tmp 56))), none⟩,
          ⟨(some 58), (.val (.mov (.tmp 6))), (some (57, false))⟩,
          ⟨(some 59), (.val (.mov (.tmp 3))), (some (57, false))⟩,
          ⟨(some 60), (.val (.bin .lss (.tmp 58) (.tmp 59))), (some (57, false))⟩,
          ⟨(some 61), (.val (.pick (.tmp 57) (.const (.bool true)) (.tmp 60))), none⟩,
          ⟨(some 62), (.val (.mov (.tmp 61))), none⟩,
          ⟨(some 63), (.val (.mov (.tmp 6))), (some (62, false))⟩,
          ⟨(some 64), (.val (.mov (.tmp 3))), (some (62, false))⟩,
          ⟨(some 65), (.val (.eq false (.prim 1) (.tmp 63) (.tmp 64))), (some (62, false))⟩,
          ⟨(some 66), (.val (.mov (.tmp 65))), (some (62, false))⟩,
          ⟨(some 67), (.val (.mov (.tmp 7))), (some (66, true))⟩,
          ⟨(some 68), (.val (.mov (.tmp 4))), (some (66, true))⟩,
          ⟨(some 69), (.val (.bin .add (.tmp 68) (.const (.int .i64 1)))), (some (66, true))⟩,
          ⟨(some 70), (.val (.eq true (.prim 1) (.tmp 67) (.tmp 69))), (some (66, true))⟩,
          ⟨(some 71), (.val (.pick (.tmp 66) (.tmp 70) (.const (.bool false)))), (some (62, false))⟩,
          ⟨(some 72), (.val (.pick (.tmp 62) (.const (.bool true)) (.tmp 71))), none⟩,
          ⟨(some 73), (.val (.mov (.tmp 72))), none⟩,
          ⟨(some 74), (.val (.mov (.tmp 6))), (some (73, false))⟩,
          ⟨(some 75), (.val (.mov (.tmp 3))), (some (73, false))⟩,
          ⟨(some 76), (.val (.bin .gtr (.tmp 74) (.tmp 75))), (some (73, false))⟩,
          ⟨(some 77), (.val (.mov (.tmp 76))), (some (73, false))⟩,
          ⟨(some 78), (.val (.mov (.tmp 7))), (some (77, true))⟩,
          ⟨(some 79), (.val (.eq true (.prim 1) (.tmp 78) (.const (.int .i64 1)))), (some (77, true))⟩,
          ⟨(some 80), (.val (.pick (.tmp 77) (.tmp 79) (.const (.bool false)))), (some (73, false))⟩,
          ⟨(some 81), (.val (.pick (.tmp 73) (.const (.bool true)) (.tmp 80))), none⟩])
        (.cond (.tmp 81)
         (.seq
          (.region [⟨(some 2), (.val (.mov (.const (.bool false)))), none⟩])
          .ret)
         .skip))
       (.seq
        (.region [⟨(some 82), (.val (.mov (.tmp 6))), none⟩,
          ⟨(some 3), (.val (.mov (.tmp 82))), none⟩])
        (.region [⟨(some 83), (.val (.mov (.tmp 7))), none⟩,
          ⟨(some 4), (.val (.mov (.tmp 83))), none⟩]))))))
   (.region [⟨(some 30), (.val (.mov (.tmp 5))), none⟩,
     ⟨(some 31), (.val (.bin .add (.tmp 30) (.const (.int .i64 1)))), none⟩,
     ⟨(some 5), (.val (.mov (.tmp 31))), none⟩])))
def F3l1 : ICode :=
 (.seq
  (.seq
   (.region [⟨(some 89), (.val (.mov (.tmp 13))), none⟩,
     ⟨(some 90), (.val (.mov (.tmp 0))), none⟩,
     ⟨(some 91), (.call (.const (.func 9 [] [])) [(.tmp 90)]), none⟩,
     ⟨(some 92), (.val (.bin .leq (.tmp 89) (.tmp 91))), none⟩])
   (.cond (.tmp 92)
    .skip
    (.exit 2)))
  (.seq
   (.block 3
    (.seq
     (.region [⟨(some 96), (.val (.mov (.tmp 0))), none⟩,
       ⟨(some 97), (.val (.mov (.tmp 13))), none⟩,
       ⟨(some 98), (.call (.const (.func 8 [] [])) [(.tmp 96), (.tmp 97)]), none⟩,
       ⟨(some 95), (.val (.mov (.tmp 98))), none⟩,
       ⟨(some 99), (.val (.extract (.tmp 95) 0)), none⟩,
       ⟨(some 100), (.val (.extract (.tmp 95) 1)), none⟩,
       ⟨(some 14), (.val (.mov (.tmp 99))), none⟩,
       ⟨(some 15), (.val (.mov (.tmp 100))), none⟩])
     (.seq
      (.seq
       (.region [⟨(some 101), (.val (.mov (.tmp 15))), none⟩,
         ⟨(some 102), (.val (.un .not (.tmp 101))), none⟩])
       (.cond (.tmp 102)
        (.seq
         (.region [⟨(some 2), (.val (.mov (.const (.bool false)))), none⟩])
         .ret)
        .skip))
      (.region [⟨(some 103), (.val (.mov (.tmp 11))), none⟩,
        ⟨(some 104), (.val (.bin .add (.tmp 103) (.const (.str [10])))), none⟩,
        ⟨(some 105), (.val (.mov (.tmp 14))), none⟩,
        ⟨(some 106), (.val (.bin .add (.tmp 104) (.tmp 105))), none⟩,
        ⟨(some 11), (.val (.mov (.tmp 106))), none⟩]))))
   (.region [⟨(some 93), (.val (.mov (.tmp 13))), none⟩,
     ⟨(some 94), (.val (.bin .add (.tmp 93) (.const (.int .i64 1)))), none⟩,
     ⟨(some 13), (.val (.mov (.tmp 94))), none⟩])))
def F3 : IFun :=
 ⟨127,
 (.seq
  (.region [⟨(some 2), (.val (.mov (.const (.bool false)))), none⟩])
  (.seq
   (.seq
    (.region [⟨(some 18), (.val (.mov (.tmp 0))), none⟩,
      ⟨(some 19), (.val (.lenstr (.tmp 18))), none⟩,
      ⟨(some 20), (.val (.bin .gtr (.tmp 19) (.const (.int .i64 200)))), none⟩,
      ⟨(some 21), (.val (.mov (.tmp 20))), none⟩,
      ⟨(some 22), (.call (.const (.func 5 [] [])) []), (some (21, false))⟩,
      ⟨(some 23), (.val (.un .not (.tmp 22))), (some (21, false))⟩,
      ⟨(some 24), (.val (.pick (.tmp 21) (.const (.bool true)) (.tmp 23))), none⟩])
    (.cond (.tmp 24)
     (.seq
      (.region [⟨(some 25), (.call (.const (.func 5 [] [])) []), none⟩,
        ⟨(some 2), (.val (.mov (.tmp 25))), none⟩])
      .ret)
     .skip))
   (.seq
    (.region [⟨(some 3), (.val (.mov (.const (.int .i64 0)))), none⟩,
      ⟨(some 4), (.val (.mov (.const (.int .i64 0)))), none⟩])
    (.seq
     (.seq
      (.region [⟨(some 5), (.val (.mov (.const (.int .i64 0)))), none⟩])
      (.block 0
       (.loop F3l0)))
     (.seq
      (.region [⟨(some 85), (.val (.mov (.tmp 0))), none⟩,
        ⟨(some 86), (.call (.const (.func 8 [] [])) [(.tmp 85), (.const (.int .i64 1))]), none⟩,
        ⟨(some 84), (.val (.mov (.tmp 86))), none⟩,
        ⟨(some 87), (.val (.extract (.tmp 84) 0)), none⟩,
        ⟨(some 88), (.val (.extract (.tmp 84) 1)), none⟩,
        ⟨(some 11), (.val (.mov (.tmp 87))), none⟩,
        ⟨(some 12), (.val (.mov (.tmp 88))), none⟩])
      (.seq
       (.seq
        (.region [⟨(some 13), (.val (.mov (.const (.int .i64 2)))), none⟩])
        (.block 2
         (.loop F3l1)))
       (.seq
        (.region [⟨(some 108), (.val (.mov (.tmp 0))), none⟩,
          ⟨(some 109), (.val (.mov (.tmp 3))), none⟩,
          ⟨(some 110), (.val (.bin .add (.tmp 109) (.const (.int .i64 1)))), none⟩,
          ⟨(some 111), (.call (.const (.func 8 [] [])) [(.tmp 108), (.tmp 110)]), none⟩,
          ⟨(some 107), (.val (.mov (.tmp 111))), none⟩,
          ⟨(some 112), (.val (.extract (.tmp 107) 0)), none⟩,
          ⟨(some 113), (.val (.extract (.tmp 107) 1)), none⟩,
          ⟨(some 16), (.val (.mov (.tmp 112))), none⟩,
          ⟨(some 17), (.val (.mov (.tmp 113))), none⟩])
        (.seq
         (.region [⟨(some 114), (.val (.mov (.tmp 11))), none⟩,
           ⟨(some 115), (.val (.mov (.tmp 0))), none⟩,
           ⟨(some 116), (.val (.eq false (.prim 2) (.tmp 114) (.tmp 115))), none⟩,
           ⟨(some 117), (.val (.mov (.tmp 116))), none⟩,
           ⟨(some 118), (.val (.mov (.tmp 3))), (some (117, true))⟩,
           ⟨(some 119), (.val (.mov (.tmp 0))), (some (117, true))⟩,
           ⟨(some 120), (.call (.const (.func 9 [] [])) [(.tmp 119)]), (some (117, true))⟩,
           ⟨(some 121), (.val (.eq false (.prim 1) (.tmp 118) (.tmp 120))), (some (117, true))⟩,
           ⟨(some 122), (.val (.pick (.tmp 117) (.tmp 121) (.const (.bool false)))), none⟩,
           ⟨(some 123), (.val (.mov (.tmp 122))), none⟩,
           ⟨(some 124), (.val (.mov (.tmp 17))), (some (123, true))⟩,
           ⟨(some 125), (.val (.un .not (.tmp 124))), (some (123, true))⟩,
           ⟨(some 126), (.val (.pick (.tmp 123) (.tmp 125) (.const (.bool false)))), none⟩,
           ⟨(some 2), (.val (.mov (.tmp 126))), none⟩])
         .ret)))))))),
 [.tmp 2]⟩
theorem ok3 : cFun Try.prog G Try.f3 = some F3 := by kernel_rfl

/- balustrade/balustradelaw04.PlaceTells -/
def F4 : IFun :=
 ⟨121,
 (.seq
  (.region [⟨(some 8), (.val (.mov (.const (.bool false)))), none⟩])
  (.seq
   (.seq
    (.region [⟨(some 24), (.val (.mov (.tmp 0))), none⟩,
      ⟨(some 25), (.val (.lenstr (.tmp 24))), none⟩,
      ⟨(some 26), (.val (.bin .gtr (.tmp 25) (.const (.int .i64 200)))), none⟩])
    (.cond (.tmp 26)
     (.seq
      (.region [⟨(some 27), (.call (.const (.func 5 [] [])) []), none⟩,
        ⟨(some 8), (.val (.mov (.tmp 27))), none⟩])
      .ret)
     .skip))
   (.seq
    (.region [⟨(some 29), (.val (.mov (.tmp 0))), none⟩,
      ⟨(some 30), (.val (.mov (.tmp 1))), none⟩,
      ⟨(some 31), (.call (.const (.func 6 [] [])) [(.tmp 29), (.tmp 30)]), none⟩,
      ⟨(some 28), (.val (.mov (.tmp 31))), none⟩,
      ⟨(some 32), (.val (.extract (.tmp 28) 0)), none⟩,
      ⟨(some 33), (.val (.extract (.tmp 28) 1)), none⟩,
      ⟨(some 34), (.val (.extract (.tmp 28) 2)), none⟩,
      ⟨(some 9), (.val (.mov (.tmp 32))), none⟩,
      ⟨(some 10), (.val (.mov (.tmp 33))), none⟩,
      ⟨(some 11), (.val (.mov (.tmp 34))), none⟩])
    (.seq
     (.region [⟨(some 36), (.val (.mov (.tmp 0))), none⟩,
       ⟨(some 37), (.val (.mov (.tmp 1))), none⟩,
       ⟨(some 38), (.call (.const (.func 10 [] [])) [(.tmp 36), (.tmp 37)]), none⟩,
       ⟨(some 35), (.val (.mov (.tmp 38))), none⟩,
       ⟨(some 39), (.val (.extract (.tmp 35) 0)), none⟩,
       ⟨(some 40), (.val (.extract (.tmp 35) 1)), none⟩,
       ⟨(some 41), (.val (.extract (.tmp 35) 2)), none⟩,
       ⟨(some 12), (.val (.mov (.tmp 39))), none⟩,
       ⟨(some 13), (.val (.mov (.tmp 40))), none⟩,
       ⟨(some 14), (.val (.mov (.tmp 41))), none⟩])
     (.seq
      (.region [⟨(some 43), (.val (.mov (.tmp 0))), none⟩,
        ⟨(some 44), (.val (.mov (.tmp 2))), none⟩,
        ⟨(some 45), (.val (.mov (.tmp 3))), none⟩,
        ⟨(some 46), (.call (.const (.func 7 [] [])) [(.tmp 43), (.tmp 44), (.tmp 45)]), none⟩,
        ⟨(some 42), (.val (.mov (.tmp 46))), none⟩,
        ⟨(some 47), (.val (.extract (.tmp 42) 0)), none⟩,
        ⟨(some 48), (.val (.extract (.tmp 42) 1)), none⟩,
        ⟨(some 15), (.val (.mov (.tmp 47))), none⟩,
        ⟨(some 16), (.val (.mov (.tmp 48))), none⟩])
      (.seq
       (.region [⟨(some 50), (.val (.mov (.tmp 0))), none⟩,
         ⟨(some 51), (.val (.mov (.tmp 2))), none⟩,
         ⟨(some 52), (.val (.mov (.tmp 3))), none⟩,
         ⟨(some 53), (.call (.const (.func 11 [] [])) [(.tmp 50), (.tmp 51), (.tmp 52)]), none⟩,
         ⟨(some 49), (.val (.mov (.tmp 53))), none⟩,
         ⟨(some 54), (.val (.extract (.tmp 49) 0)), none⟩,
         ⟨(some 55), (.val (.extract (.tmp 49) 1)), none⟩,
         ⟨(some 17), (.val (.mov (.tmp 54))), none⟩,
         ⟨(some 18), (.val (.mov (.tmp 55))), none⟩])
       (.seq
        (.region [⟨(some 56), (.val (.mov (.tmp 0))), none⟩,
          ⟨(some 57), (.call (.const (.func 12 [] [])) [(.tmp 56)]), none⟩,
          ⟨(some 19), (.val (.mov (.tmp 57))), none⟩])
        (.seq
         (.region [⟨(some 59), (.val (.mov (.tmp 0))), none⟩,
           ⟨(some 60), (.val (.mov (.tmp 2))), none⟩,
           ⟨(some 61), (.call (.const (.func 8 [] [])) [(.tmp 59), (.tmp 60)]), none⟩,
           ⟨(some 58), (.val (.mov (.tmp 61))), none⟩,
           ⟨(some 62), (.val (.extract (.tmp 58) 0)), none⟩,
           ⟨(some 63), (.val (.extract (.tmp 58) 1)), none⟩,
           ⟨(some 20), (.val (.mov (.tmp 62))), none⟩,
           ⟨(some 21), (.val (.mov (.tmp 63))), none⟩])
         (.seq
          (.region [⟨(some 22), (.val (.mov (.const (.str [])))), none⟩])
          (.seq
           (.region [⟨(some 64), (.val (.mov (.tmp 2))), none⟩,
             ⟨(some 65), (.val (.bin .geq (.tmp 64) (.const (.int .i64 1)))), none⟩,
             ⟨(some 66), (.val (.mov (.tmp 65))), none⟩,
             ⟨(some 67), (.val (.mov (.tmp 2))), (some (66, true))⟩,
             ⟨(some 68), (.val (.mov (.tmp 19))), (some (66, true))⟩,
             ⟨(some 69), (.val (.len (.tmp 68))), (some (66, true))⟩,
             ⟨(some 70), (.val (.bin .leq (.tmp 67) (.tmp 69))), (some (66, true))⟩,
             ⟨(some 71), (.val (.pick (.tmp 66) (.tmp 70) (.const (.bool false)))), none⟩,
             ⟨(some 23), (.val (.mov (.tmp 71))), none⟩])
           (.seq
            (.seq
             (.region [⟨(some 72), (.val (.mov (.tmp 23))), none⟩])
             (.cond (.tmp 72)
              (.region [⟨(some 73), (.val (.mov (.tmp 19))), none⟩,
                ⟨(some 74), (.val (.mov (.tmp 2))), none⟩,
                ⟨(some 75), (.val (.bin .sub (.tmp 74) (.const (.int .i64 1)))), none⟩,
                ⟨(some 76), (.val (.iaddr 1 (.tmp 73) (.tmp 75))), none⟩,
                ⟨(some 77), (.val (.load none (.tmp 76))), none⟩,
                ⟨(some 22), (.val (.mov (.tmp 77))), none⟩])
              .skip))
            (.seq
             (.region [⟨(some 78), (.val (.mov (.tmp 9))), none⟩,
               ⟨(some 79), (.val (.mov (.tmp 12))), none⟩,
               ⟨(some 80), (.val (.eq false (.prim 1) (.tmp 78) (.tmp 79))), none⟩,
               ⟨(some 81), (.val (.mov (.tmp 80))), none⟩,
               ⟨(some 82), (.val (.mov (.tmp 10))), (some (81, true))⟩,
               ⟨(some 83), (.val (.mov (.tmp 13))), (some (81, true))⟩,
               ⟨(some 84), (.val (.eq false (.prim 1) (.tmp 82) (.tmp 83))), (some (81, true))⟩,
               ⟨(some 85), (.val (.pick (.tmp 81) (.tmp 84) (.const (.bool false)))), none⟩,
               ⟨(some 86), (.val (.mov (.tmp 85))), none⟩,
               ⟨(some 87), (.val (.mov (.tmp 11))), (some (86, true))⟩,
               ⟨(some 88), (.val (.mov (.tmp 14))), (some (86, true))⟩,
               ⟨(some 89), (.val (.eq false (.prim 0) (.tmp 87) (.tmp 88))), (some (86, true))⟩,
               ⟨(some 90), (.val (.pick (.tmp 86) (.tmp 89) (.const (.bool false)))), none⟩,
               ⟨(some 91), (.val (.mov (.tmp 90))), none⟩,
               ⟨(some 92), (.val (.mov (.tmp 15))), (some (91, true))⟩,
               ⟨(some 93), (.val (.mov (.tmp 17))), (some (91, true))⟩,
               ⟨(some 94), (.val (.eq false (.prim 1) (.tmp 92) (.tmp 93))), (some (91, true))⟩,
               ⟨(some 95), (.val (.pick (.tmp 91) (.tmp 94) (.const (.bool false)))), none⟩,
               ⟨(some 96), (.val (.mov (.tmp 95))), none⟩,
               ⟨(some 97), (.val (.mov (.tmp 16))), (some (96, true))⟩,
               ⟨(some 98), (.val (.mov (.tmp 18))), (some (96, true))⟩,
               ⟨(some 99), (.val (.eq false (.prim 0) (.tmp 97) (.tmp 98))), (some (96, true))⟩,
               ⟨(some 100), (.val (.pick (.tmp 96) (.tmp 99) (.const (.bool false)))), none⟩,
               ⟨(some 101), (.val (.mov (.tmp 100))), none⟩,
               ⟨(some 102), (.val (.mov (.tmp 0))), (some (101, true))⟩,
               ⟨(some 103), (.call (.const (.func 9 [] [])) [(.tmp 102)]), (some (101, true))⟩,
               ⟨(some 104), (.val (.mov (.tmp 19))), (some (101, true))⟩,
               ⟨(some 105), (.val (.len (.tmp 104))), (some (101, true))⟩,
               ⟨(some 106), (.val (.eq false (.prim 1) (.tmp 103) (.tmp 105))), (some (101, true))⟩,
               ⟨(some 107), (.val (.pick (.tmp 101) (.tmp 106) (.const (.bool false)))), none⟩,
               ⟨(some 108), (.val (.mov (.tmp 107))), none⟩,
               ⟨(some 109), (.val (.mov (.tmp 20))), (some (108, true))⟩,
               ⟨(some 110), (.val (.mov (.tmp 22))), (some (108, true))⟩,
               ⟨(some 111), (.val (.eq false (.prim 2) (.tmp 109) (.tmp 110))), (some (108, true))⟩,
               ⟨(some 112), (.val (.pick (.tmp 108) (.tmp 111) (.const (.bool false)))), none⟩,
               ⟨(some 113), (.val (.mov (.tmp 112))), none⟩,
               ⟨(some 114), (.val (.mov (.tmp 21))), (some (113, true))⟩,
               ⟨(some 115), (.val (.mov (.tmp 23))), (some (113, true))⟩,
               ⟨(some 116), (.val (.eq false (.prim 0) (.tmp 114) (.tmp 115))), (some (113, true))⟩,
               ⟨(some 117), (.val (.pick (.tmp 113) (.tmp 116) (.const (.bool false)))), none⟩,
               ⟨(some 118), (.val (.mov (.tmp 117))), none⟩,
               ⟨(some 119), (.call (.const (.func 5 [] [])) []), (some (118, true))⟩,
               ⟨(some 120), (.val (.pick (.tmp 118) (.tmp 119) (.const (.bool false)))), none⟩,
               ⟨(some 8), (.val (.mov (.tmp 120))), none⟩])
             .ret)))))))))))),
 [.tmp 8]⟩
theorem ok4 : cFun Try.prog G Try.f4 = some F4 := by kernel_rfl

/- balustrade/balustradelaw04.works -/
def F5 : IFun :=
 ⟨35,
 (.seq
  (.region [⟨(some 0), (.val (.mov (.const (.bool false)))), none⟩])
  (.seq
   (.region [⟨(some 7), (.call (.const (.func 6 [] [])) [(.const (.str [97, 10, 98])), (.const (.int .i64 2))]), none⟩,
     ⟨(some 6), (.val (.mov (.tmp 7))), none⟩,
     ⟨(some 8), (.val (.extract (.tmp 6) 0)), none⟩,
     ⟨(some 9), (.val (.extract (.tmp 6) 1)), none⟩,
     ⟨(some 10), (.val (.extract (.tmp 6) 2)), none⟩,
     ⟨(some 1), (.val (.mov (.tmp 8))), none⟩,
     ⟨(some 2), (.val (.mov (.tmp 9))), none⟩,
     ⟨(some 3), (.val (.mov (.tmp 10))), none⟩])
   (.seq
    (.region [⟨(some 12), (.call (.const (.func 7 [] [])) [(.const (.str [97, 10, 98])), (.const (.int .i64 2)), (.const (.int .i64 1))]), none⟩,
      ⟨(some 11), (.val (.mov (.tmp 12))), none⟩,
      ⟨(some 13), (.val (.extract (.tmp 11) 0)), none⟩,
      ⟨(some 14), (.val (.extract (.tmp 11) 1)), none⟩,
      ⟨(some 4), (.val (.mov (.tmp 13))), none⟩,
      ⟨(some 5), (.val (.mov (.tmp 14))), none⟩])
    (.seq
     (.region [⟨(some 15), (.val (.mov (.tmp 1))), none⟩,
       ⟨(some 16), (.val (.eq false (.prim 1) (.tmp 15) (.const (.int .i64 2)))), none⟩,
       ⟨(some 17), (.val (.mov (.tmp 16))), none⟩,
       ⟨(some 18), (.val (.mov (.tmp 2))), (some (17, true))⟩,
       ⟨(some 19), (.val (.eq false (.prim 1) (.tmp 18) (.const (.int .i64 1)))), (some (17, true))⟩,
       ⟨(some 20), (.val (.pick (.tmp 17) (.tmp 19) (.const (.bool false)))), none⟩,
       ⟨(some 21), (.val (.mov (.tmp 20))), none⟩,
       ⟨(some 22), (.val (.mov (.tmp 3))), (some (21, true))⟩,
       ⟨(some 23), (.val (.pick (.tmp 21) (.tmp 22) (.const (.bool false)))), none⟩,
       ⟨(some 24), (.val (.mov (.tmp 23))), none⟩,
       ⟨(some 25), (.val (.mov (.tmp 4))), (some (24, true))⟩,
       ⟨(some 26), (.val (.eq false (.prim 1) (.tmp 25) (.const (.int .i64 2)))), (some (24, true))⟩,
       ⟨(some 27), (.val (.pick (.tmp 24) (.tmp 26) (.const (.bool false)))), none⟩,
       ⟨(some 28), (.val (.mov (.tmp 27))), none⟩,
       ⟨(some 29), (.val (.mov (.tmp 5))), (some (28, true))⟩,
       ⟨(some 30), (.val (.pick (.tmp 28) (.tmp 29) (.const (.bool false)))), none⟩,
       ⟨(some 31), (.val (.mov (.tmp 30))), none⟩,
       ⟨(some 32), (.call (.const (.func 9 [] [])) [(.const (.str []))]), (some (31, true))⟩,
       ⟨(some 33), (.val (.eq false (.prim 1) (.tmp 32) (.const (.int .i64 1)))), (some (31, true))⟩,
       ⟨(some 34), (.val (.pick (.tmp 31) (.tmp 33) (.const (.bool false)))), none⟩,
       ⟨(some 0), (.val (.mov (.tmp 34))), none⟩])
     .ret)))),
 [.tmp 0]⟩
theorem ok5 : cFun Try.prog G Try.f5 = some F5 := by kernel_rfl

/- balustrade/place.Of -/
def F6 : IFun :=
 ⟨26,
 (.seq
  (.region [⟨(some 4), (.val (.mov (.const (.int .i64 0)))), none⟩,
    ⟨(some 5), (.val (.mov (.const (.int .i64 0)))), none⟩,
    ⟨(some 6), (.val (.mov (.const (.bool false)))), none⟩])
  (.seq
   (.seq
    (.region [⟨(some 8), (.val (.mov (.tmp 1))), none⟩,
      ⟨(some 9), (.val (.bin .lss (.tmp 8) (.const (.int .i64 0)))), none⟩,
      ⟨(some 10), (.val (.mov (.tmp 9))), none⟩,
      ⟨(some 11), (.val (.mov (.tmp 1))), (some (10, false))⟩,
      ⟨(some 12), (.val (.mov (.tmp 0))), (some (10, false))⟩,
      ⟨(some 13), (.val (.lenstr (.tmp 12))), (some (10, false))⟩,
      ⟨(some 14), (.val (.bin .gtr (.tmp 11) (.tmp 13))), (some (10, false))⟩,
      ⟨(some 15), (.val (.pick (.tmp 10) (.const (.bool true)) (.tmp 14))), none⟩])
    (.cond (.tmp 15)
     (.seq
      (.region [⟨(some 4), (.val (.mov (.const (.int .i64 0)))), none⟩,
        ⟨(some 5), (.val (.mov (.const (.int .i64 0)))), none⟩,
        ⟨(some 6), (.val (.mov (.const (.bool false)))), none⟩])
      .ret)
     .skip))
   (.seq
    (.region [⟨(some 16), (.val (.mov (.tmp 0))), none⟩,
      ⟨(some 17), (.val (.mov (.tmp 1))), none⟩,
      ⟨(some 18), (.val (.slstr (.tmp 16) none (some (.tmp 17)))), none⟩,
      ⟨(some 7), (.val (.mov (.tmp 18))), none⟩])
    (.seq
     (.region [⟨(some 19), (.val (.mov (.tmp 7))), none⟩,
       ⟨(some 20), (.call (.const (.func 13 [] [])) [(.tmp 19), (.const (.str [10]))]), none⟩,
       ⟨(some 21), (.val (.bin .add (.const (.int .i64 1)) (.tmp 20))), none⟩,
       ⟨(some 22), (.val (.mov (.tmp 1))), none⟩,
       ⟨(some 23), (.val (.mov (.tmp 7))), none⟩,
       ⟨(some 24), (.call (.const (.func 14 [] [])) [(.tmp 23), (.const (.int .u8 10))]), none⟩,
       ⟨(some 25), (.val (.bin .sub (.tmp 22) (.tmp 24))), none⟩,
       ⟨(some 4), (.val (.mov (.tmp 21))), none⟩,
       ⟨(some 5), (.val (.mov (.tmp 25))), none⟩,
       ⟨(some 6), (.val (.mov (.const (.bool true)))), none⟩])
     .ret)))),
 [.tmp 4, .tmp 5, .tmp 6]⟩
theorem ok6 : cFun Try.prog G Try.f6 = some F6 := by kernel_rfl

/- balustrade/place.At -/
def F7 : IFun :=
 ⟨37,
 (.seq
  (.region [⟨(some 6), (.val (.mov (.const (.int .i64 0)))), none⟩,
    ⟨(some 7), (.val (.mov (.const (.bool false)))), none⟩])
  (.seq
   (.region [⟨(some 10), (.val (.mov (.tmp 0))), none⟩,
     ⟨(some 11), (.val (.mov (.tmp 1))), none⟩,
     ⟨(some 12), (.call (.const (.func 15 [] [])) [(.tmp 10), (.tmp 11)]), none⟩,
     ⟨(some 8), (.val (.mov (.tmp 12))), none⟩])
   (.seq
    (.seq
     (.region [⟨(some 13), (.val (.mov (.tmp 8))), none⟩,
       ⟨(some 14), (.val (.bin .lss (.tmp 13) (.const (.int .i64 0)))), none⟩,
       ⟨(some 15), (.val (.mov (.tmp 14))), none⟩,
       ⟨(some 16), (.val (.mov (.tmp 2))), (some (15, false))⟩,
       ⟨(some 17), (.val (.bin .lss (.tmp 16) (.const (.int .i64 1)))), (some (15, false))⟩,
       ⟨(some 18), (.val (.pick (.tmp 15) (.const (.bool true)) (.tmp 17))), none⟩])
     (.cond (.tmp 18)
      (.seq
       (.region [⟨(some 6), (.val (.mov (.const (.int .i64 0)))), none⟩,
         ⟨(some 7), (.val (.mov (.const (.bool false)))), none⟩])
       .ret)
      .skip))
    (.seq
     (.region [⟨(some 19), (.val (.mov (.tmp 0))), none⟩,
       ⟨(some 20), (.val (.mov (.tmp 8))), none⟩,
       ⟨(some 21), (.val (.slstr (.tmp 19) (some (.tmp 20)) none)), none⟩,
       ⟨(some 22), (.call (.const (.func 16 [] [])) [(.tmp 21), (.const (.int .u8 10))]), none⟩,
       ⟨(some 9), (.val (.mov (.tmp 22))), none⟩])
     (.seq
      (.seq
       (.region [⟨(some 23), (.val (.mov (.tmp 9))), none⟩,
         ⟨(some 24), (.val (.bin .lss (.tmp 23) (.const (.int .i64 0)))), none⟩])
       (.cond (.tmp 24)
        (.region [⟨(some 25), (.val (.mov (.tmp 0))), none⟩,
          ⟨(some 26), (.val (.lenstr (.tmp 25))), none⟩,
          ⟨(some 27), (.val (.mov (.tmp 8))), none⟩,
          ⟨(some 28), (.val (.bin .sub (.tmp 26) (.tmp 27))), none⟩,
          ⟨(some 9), (.val (.mov (.tmp 28))), none⟩])
        .skip))
      (.seq
       (.seq
        (.region [⟨(some 29), (.val (.mov (.tmp 2))), none⟩,
          ⟨(some 30), (.val (.bin .sub (.tmp 29) (.const (.int .i64 1)))), none⟩,
          ⟨(some 31), (.val (.mov (.tmp 9))), none⟩,
          ⟨(some 32), (.val (.bin .gtr (.tmp 30) (.tmp 31))), none⟩])
        (.cond (.tmp 32)
         (.seq
          (.region [⟨(some 6), (.val (.mov (.const (.int .i64 0)))), none⟩,
            ⟨(some 7), (.val (.mov (.const (.bool false)))), none⟩])
          .ret)
         .skip))
       (.seq
        (.region [⟨(some 33), (.val (.mov (.tmp 8))), none⟩,
          ⟨(some 34), (.val (.mov (.tmp 2))), none⟩,
          ⟨(some 35), (.val (.bin .add (.tmp 33) (.tmp 34))), none⟩,
          ⟨(some 36), (.val (.bin .sub (.tmp 35) (.const (.int .i64 1)))), none⟩,
          ⟨(some 6), (.val (.mov (.tmp 36))), none⟩,
          ⟨(some 7), (.val (.mov (.const (.bool true)))), none⟩])
        .ret))))))),
 [.tmp 6, .tmp 7]⟩
theorem ok7 : cFun Try.prog G Try.f7 = some F7 := by kernel_rfl

/- balustrade/place.Line -/
def F8 : IFun :=
 ⟨24,
 (.seq
  (.region [⟨(some 4), (.val (.mov (.const (.str [])))), none⟩,
    ⟨(some 5), (.val (.mov (.const (.bool false)))), none⟩])
  (.seq
   (.region [⟨(some 10), (.val (.mov (.tmp 0))), none⟩,
     ⟨(some 11), (.val (.mov (.tmp 1))), none⟩,
     ⟨(some 12), (.call (.const (.func 15 [] [])) [(.tmp 10), (.tmp 11)]), none⟩,
     ⟨(some 6), (.val (.mov (.tmp 12))), none⟩])
   (.seq
    (.seq
     (.region [⟨(some 13), (.val (.mov (.tmp 6))), none⟩,
       ⟨(some 14), (.val (.bin .lss (.tmp 13) (.const (.int .i64 0)))), none⟩])
     (.cond (.tmp 14)
      (.seq
       (.region [⟨(some 4), (.val (.mov (.const (.str [])))), none⟩,
         ⟨(some 5), (.val (.mov (.const (.bool false)))), none⟩])
       .ret)
      .skip))
    (.seq
     (.region [⟨(some 16), (.val (.mov (.tmp 0))), none⟩,
       ⟨(some 17), (.val (.mov (.tmp 6))), none⟩,
       ⟨(some 18), (.val (.slstr (.tmp 16) (some (.tmp 17)) none)), none⟩,
       ⟨(some 19), (.call (.const (.func 17 [] [])) [(.tmp 18), (.const (.str [10]))]), none⟩,
       ⟨(some 15), (.val (.mov (.tmp 19))), none⟩,
       ⟨(some 20), (.val (.extract (.tmp 15) 0)), none⟩,
       ⟨(some 21), (.val (.extract (.tmp 15) 1)), none⟩,
       ⟨(some 22), (.val (.extract (.tmp 15) 2)), none⟩,
       ⟨(some 7), (.val (.mov (.tmp 20))), none⟩,
       ⟨(some 8), (.val (.mov (.tmp 21))), none⟩,
       ⟨(some 9), (.val (.mov (.tmp 22))), none⟩])
     (.seq
      (.region [⟨(some 23), (.val (.mov (.tmp 7))), none⟩,
        ⟨(some 4), (.val (.mov (.tmp 23))), none⟩,
        ⟨(some 5), (.val (.mov (.const (.bool true)))), none⟩])
      .ret))))),
 [.tmp 4, .tmp 5]⟩
theorem ok8 : cFun Try.prog G Try.f8 = some F8 := by kernel_rfl

/- balustrade/place.Lines -/
def F9 : IFun :=
 ⟨6,
 (.seq
  (.region [⟨(some 2), (.val (.mov (.const (.int .i64 0)))), none⟩])
  (.seq
   (.region [⟨(some 3), (.val (.mov (.tmp 0))), none⟩,
     ⟨(some 4), (.call (.const (.func 13 [] [])) [(.tmp 3), (.const (.str [10]))]), none⟩,
     ⟨(some 5), (.val (.bin .add (.const (.int .i64 1)) (.tmp 4))), none⟩,
     ⟨(some 2), (.val (.mov (.tmp 5))), none⟩])
   .ret)),
 [.tmp 2]⟩
theorem ok9 : cFun Try.prog G Try.f9 = some F9 := by kernel_rfl

/- balustrade/balustraderef04.Of -/
def F10l0 : ICode :=
 (.seq
  (.seq
   (.region [⟨(some 10), (.val (.mov (.tmp 9))), none⟩,
     ⟨(some 11), (.val (.mov (.tmp 0))), none⟩,
     ⟨(some 12), (.val (.lenstr (.tmp 11))), none⟩,
     ⟨(some 13), (.val (.bin .leq (.tmp 10) (.tmp 12))), none⟩])
   (.cond (.tmp 13)
    .skip
    (.exit 0)))
  (.seq
   (.block 1
    (.seq
     (.seq
      (.region [⟨(some 16), (.val (.mov (.tmp 9))), none⟩,
        ⟨(some 17), (.val (.mov (.tmp 1))), none⟩,
        ⟨(some 18), (.val (.eq false (.prim 1) (.tmp 16) (.tmp 17))), none⟩])
      (.cond (.tmp 18)
       (.seq
        (.region [⟨(some 19), (.val (.mov (.tmp 7))), none⟩,
          ⟨(some 20), (.val (.mov (.tmp 8))), none⟩,
          ⟨(some 4), (.val (.mov (.tmp 19))), none⟩,
          ⟨(some 5), (.val (.mov (.tmp 20))), none⟩,
          ⟨(some 6), (.val (.mov (.const (.bool true)))), none⟩])
        .ret)
       .skip))
     (.seq
      (.region [⟨(some 21), (.val (.mov (.tmp 8))), none⟩,
        ⟨(some 22), (.val (.bin .add (.tmp 21) (.const (.int .i64 1)))), none⟩,
        ⟨(some 8), (.val (.mov (.tmp 22))), none⟩])
      (.seq
       (.region [⟨(some 23), (.val (.mov (.tmp 9))), none⟩,
         ⟨(some 24), (.val (.mov (.tmp 0))), none⟩,
         ⟨(some 25), (.val (.lenstr (.tmp 24))), none⟩,
         ⟨(some 26), (.val (.bin .lss (.tmp 23) (.tmp 25))), none⟩,
         ⟨(some 27), (.val (.mov (.tmp 26))), none⟩,
         ⟨(some 28), (.val (.mov (.tmp 0))), (some (27, true))⟩,
         ⟨(some 29), (.val (.mov (.tmp 9))), (some (27, true))⟩,
         ⟨(some 30), (.val (.idxstr (.tmp 28) (.tmp 29))), (some (27, true))⟩,
         ⟨(some 31), (.val (.eq false (.prim 1) (.tmp 30) (.const (.int .u8 10)))), (some (27, true))⟩,
         ⟨(some 32), (.val (.pick (.tmp 27) (.tmp 31) (.const (.bool false)))), none⟩])
       (.cond (.tmp 32)
        (.seq
         (.region [⟨(some 33), (.val (.mov (.tmp 7))), none⟩,
           ⟨(some 34), (.val (.bin .add (.tmp 33) (.const (.int .i64 1)))), none⟩,
           ⟨(some 7), (.val (.mov (.tmp 34))), none⟩])
         (.region [⟨(some 8), (.val (.mov (.const (.int .i64 1)))), none⟩]))
        .skip)))))
   (.region [⟨(some 14), (.val (.mov (.tmp 9))), none⟩,
     ⟨(some 15), (.val (.bin .add (.tmp 14) (.const (.int .i64 1)))), none⟩,
     ⟨(some 9), (.val (.mov (.tmp 15))), none⟩])))
def F10 : IFun :=
 ⟨35,
 (.seq
  (.region [⟨(some 4), (.val (.mov (.const (.int .i64 0)))), none⟩,
    ⟨(some 5), (.val (.mov (.const (.int .i64 0)))), none⟩,
    ⟨(some 6), (.val (.mov (.const (.bool false)))), none⟩])
  (.seq
   (.region [⟨(some 7), (.val (.mov (.const (.int .i64 1)))), none⟩,
     ⟨(some 8), (.val (.mov (.const (.int .i64 1)))), none⟩])
   (.seq
    (.seq
     (.region [⟨(some 9), (.val (.mov (.const (.int .i64 0)))), none⟩])
     (.block 0
      (.loop F10l0)))
    (.seq
     (.region [⟨(some 4), (.val (.mov (.const (.int .i64 0)))), none⟩,
       ⟨(some 5), (.val (.mov (.const (.int .i64 0)))), none⟩,
       ⟨(some 6), (.val (.mov (.const (.bool false)))), none⟩])
     .ret)))),
 [.tmp 4, .tmp 5, .tmp 6]⟩
theorem ok10 : cFun Try.prog G Try.f10 = some F10 := by kernel_rfl

/- balustrade/balustraderef04.At -/
def F11l0 : ICode :=
 (.seq
  (.seq
   (.region [⟨(some 12), (.val (.mov (.tmp 8))), none⟩,
     ⟨(some 13), (.val (.mov (.tmp 0))), none⟩,
     ⟨(some 14), (.val (.lenstr (.tmp 13))), none⟩,
     ⟨(some 15), (.val (.bin .leq (.tmp 12) (.tmp 14))), none⟩])
   (.cond (.tmp 15)
    .skip
    (.exit 0)))
  (.seq
   (.block 1
    (.seq
     (.region [⟨(some 19), (.val (.mov (.tmp 0))), none⟩,
       ⟨(some 20), (.val (.mov (.tmp 8))), none⟩,
       ⟨(some 21), (.call (.const (.func 10 [] [])) [(.tmp 19), (.tmp 20)]), none⟩,
       ⟨(some 18), (.val (.mov (.tmp 21))), none⟩,
       ⟨(some 22), (.val (.extract (.tmp 18) 0)), none⟩,
       ⟨(some 23), (.val (.extract (.tmp 18) 1)), none⟩,
       ⟨(some 24), (.val (.extract (.tmp 18) 2)), none⟩,
       ⟨(some 9), (.val (.mov (.tmp 22))), none⟩,
       ⟨(some 10), (.val (.mov (.tmp 23))), none⟩,
       ⟨(some 11), (.val (.mov (.tmp 24))), none⟩])
     (.seq
      (.region [⟨(some 25), (.val (.mov (.tmp 9))), none⟩,
        ⟨(some 26), (.val (.mov (.tmp 1))), none⟩,
        ⟨(some 27), (.val (.eq false (.prim 1) (.tmp 25) (.tmp 26))), none⟩,
        ⟨(some 28), (.val (.mov (.tmp 27))), none⟩,
        ⟨(some 29), (.val (.mov (.tmp 10))), (some (28, true))⟩,
        ⟨(some 30), (.val (.mov (.tmp 2))), (some (28, true))⟩,
        ⟨(some 31), (.val (.eq false (.prim 1) (.tmp 29) (.tmp 30))), (some (28, true))⟩,
        ⟨(some 32), (.val (.pick (.tmp 28) (.tmp 31) (.const (.bool false)))), none⟩])
      (.cond (.tmp 32)
       (.seq
        (.region [⟨(some 33), (.val (.mov (.tmp 8))), none⟩,
          ⟨(some 6), (.val (.mov (.tmp 33))), none⟩,
          ⟨(some 7), (.val (.mov (.const (.bool true)))), none⟩])
        .ret)
       .skip))))
   (.region [⟨(some 16), (.val (.mov (.tmp 8))), none⟩,
     ⟨(some 17), (.val (.bin .add (.tmp 16) (.const (.int .i64 1)))), none⟩,
     ⟨(some 8), (.val (.mov (.tmp 17))), none⟩])))
def F11 : IFun :=
 ⟨34,
 (.seq
  (.region [⟨(some 6), (.val (.mov (.const (.int .i64 0)))), none⟩,
    ⟨(some 7), (.val (.mov (.const (.bool false)))), none⟩])
  (.seq
   (.seq
    (.region [⟨(some 8), (.val (.mov (.const (.int .i64 0)))), none⟩])
    (.block 0
     (.loop F11l0)))
   (.seq
    (.region [⟨(some 6), (.val (.mov (.const (.int .i64 0)))), none⟩,
      ⟨(some 7), (.val (.mov (.const (.bool false)))), none⟩])
    .ret))),
 [.tmp 6, .tmp 7]⟩
theorem ok11 : cFun Try.prog G Try.f11 = some F11 := by kernel_rfl

/- balustrade/balustraderef04.Lines -/
def F12l0 : ICode :=
 (.seq
  (.seq
   (.region [⟨(some 7), (.val (.mov (.tmp 5))), none⟩,
     ⟨(some 8), (.val (.mov (.tmp 0))), none⟩,
     ⟨(some 9), (.val (.lenstr (.tmp 8))), none⟩,
     ⟨(some 10), (.val (.bin .lss (.tmp 7) (.tmp 9))), none⟩])
   (.cond (.tmp 10)
    .skip
    (.exit 0)))
  (.seq
   (.block 1
    (.seq
     (.region [⟨(some 13), (.val (.mov (.tmp 0))), none⟩,
       ⟨(some 14), (.val (.mov (.tmp 5))), none⟩,
       ⟨(some 15), (.val (.idxstr (.tmp 13) (.tmp 14))), none⟩,
       ⟨(some 16), (.val (.eq false (.prim 1) (.tmp 15) (.const (.int .u8 10)))), none⟩])
     (.cond (.tmp 16)
      (.seq
       (.region [⟨(some 17), (.val (.mov (.tmp 3))), none⟩,
         ⟨(some 18), (.val (.mov (.tmp 4))), none⟩,
         ⟨(some 19), (.val (.bslice 9 1 1 [(.str [])] [(0, (.tmp 18))])), none⟩,
         ⟨(some 20), (.val (.append 9 1 16 (.tmp 17) (.tmp 19))), none⟩,
         ⟨(some 3), (.val (.mov (.tmp 20))), none⟩])
       (.region [⟨(some 4), (.val (.mov (.const (.str [])))), none⟩]))
      (.region [⟨(some 21), (.val (.mov (.tmp 4))), none⟩,
        ⟨(some 22), (.val (.mov (.tmp 0))), none⟩,
        ⟨(some 23), (.val (.mov (.tmp 5))), none⟩,
        ⟨(some 24), (.val (.mov (.tmp 5))), none⟩,
        ⟨(some 25), (.val (.bin .add (.tmp 24) (.const (.int .i64 1)))), none⟩,
        ⟨(some 26), (.val (.slstr (.tmp 22) (some (.tmp 23)) (some (.tmp 25)))), none⟩,
        ⟨(some 27), (.val (.bin .add (.tmp 21) (.tmp 26))), none⟩,
        ⟨(some 4), (.val (.mov (.tmp 27))), none⟩]))))
   (.region [⟨(some 11), (.val (.mov (.tmp 5))), none⟩,
     ⟨(some 12), (.val (.bin .add (.tmp 11) (.const (.int .i64 1)))), none⟩,
     ⟨(some 5), (.val (.mov (.tmp 12))), none⟩])))
def F12 : IFun :=
 ⟨32,
 (.seq
  (.region [⟨(some 2), (.val (.mov (.const .nilslice))), none⟩])
  (.seq
   (.region [⟨(some 6), (.val (.bslice 9 1 0 [(.str [])] [])), none⟩,
     ⟨(some 3), (.val (.mov (.tmp 6))), none⟩])
   (.seq
    (.region [⟨(some 4), (.val (.mov (.const (.str [])))), none⟩])
    (.seq
     (.seq
      (.region [⟨(some 5), (.val (.mov (.const (.int .i64 0)))), none⟩])
      (.block 0
       (.loop F12l0)))
     (.seq
      (.region [⟨(some 28), (.val (.mov (.tmp 3))), none⟩,
        ⟨(some 29), (.val (.mov (.tmp 4))), none⟩,
        ⟨(some 30), (.val (.bslice 9 1 1 [(.str [])] [(0, (.tmp 29))])), none⟩,
        ⟨(some 31), (.val (.append 9 1 16 (.tmp 28) (.tmp 30))), none⟩,
        ⟨(some 2), (.val (.mov (.tmp 31))), none⟩])
      .ret))))),
 [.tmp 2]⟩
theorem ok12 : cFun Try.prog G Try.f12 = some F12 := by kernel_rfl

/- strings.Count -/
def F13l0 : ICode :=
 (.block 1
  (.seq
   (.region [⟨(some 20), (.val (.mov (.tmp 0))), none⟩,
     ⟨(some 21), (.val (.mov (.tmp 1))), none⟩,
     ⟨(some 22), (.call (.const (.func 20 [] [])) [(.tmp 20), (.tmp 21)]), none⟩,
     ⟨(some 6), (.val (.mov (.tmp 22))), none⟩])
   (.seq
    (.seq
     (.region [⟨(some 23), (.val (.mov (.tmp 6))), none⟩,
       ⟨(some 24), (.val (.eq false (.prim 1) (.tmp 23) (.const (.int .i64 (-1))))), none⟩])
     (.cond (.tmp 24)
      (.seq
       (.region [⟨(some 25), (.val (.mov (.tmp 5))), none⟩,
         ⟨(some 4), (.val (.mov (.tmp 25))), none⟩])
       .ret)
      .skip))
    (.seq
     (.region [⟨(some 26), (.val (.mov (.tmp 5))), none⟩,
       ⟨(some 27), (.val (.bin .add (.tmp 26) (.const (.int .i64 1)))), none⟩,
       ⟨(some 5), (.val (.mov (.tmp 27))), none⟩])
     (.region [⟨(some 28), (.val (.mov (.tmp 0))), none⟩,
       ⟨(some 29), (.val (.mov (.tmp 6))), none⟩,
       ⟨(some 30), (.val (.mov (.tmp 1))), none⟩,
       ⟨(some 31), (.val (.lenstr (.tmp 30))), none⟩,
       ⟨(some 32), (.val (.bin .add (.tmp 29) (.tmp 31))), none⟩,
       ⟨(some 33), (.val (.slstr (.tmp 28) (some (.tmp 32)) none)), none⟩,
       ⟨(some 0), (.val (.mov (.tmp 33))), none⟩])))))
def F13 : IFun :=
 ⟨34,
 (.seq
  (.region [⟨(some 4), (.val (.mov (.const (.int .i64 0)))), none⟩])
  (.seq
   (.seq
    (.region [⟨(some 7), (.val (.mov (.tmp 1))), none⟩,
      ⟨(some 8), (.val (.lenstr (.tmp 7))), none⟩,
      ⟨(some 9), (.val (.eq false (.prim 1) (.tmp 8) (.const (.int .i64 0)))), none⟩])
    (.cond (.tmp 9)
     (.seq
      (.region [⟨(some 10), (.val (.mov (.tmp 0))), none⟩,
        ⟨(some 11), (.call (.const (.func 18 [] [])) [(.tmp 10)]), none⟩,
        ⟨(some 12), (.val (.bin .add (.tmp 11) (.const (.int .i64 1)))), none⟩,
        ⟨(some 4), (.val (.mov (.tmp 12))), none⟩])
      .ret)
     .skip))
   (.seq
    (.seq
     (.region [⟨(some 13), (.val (.mov (.tmp 1))), none⟩,
       ⟨(some 14), (.val (.lenstr (.tmp 13))), none⟩,
       ⟨(some 15), (.val (.eq false (.prim 1) (.tmp 14) (.const (.int .i64 1)))), none⟩])
     (.cond (.tmp 15)
      (.seq
       (.region [⟨(some 16), (.val (.mov (.tmp 0))), none⟩,
         ⟨(some 17), (.val (.mov (.tmp 1))), none⟩,
         ⟨(some 18), (.val (.idxstr (.tmp 17) (.const (.int .i64 0)))), none⟩,
         ⟨(some 19), (.call (.const (.func 19 [] [])) [(.tmp 16), (.tmp 18)]), none⟩,
         ⟨(some 4), (.val (.mov (.tmp 19))), none⟩])
       .ret)
      .skip))
    (.seq
     (.region [⟨(some 5), (.val (.mov (.const (.int .i64 0)))), none⟩])
     (.block 0
      (.loop F13l0)))))),
 [.tmp 4]⟩
theorem ok13 : cFun Try.prog G Try.f13 = some F13 := by kernel_rfl

/- strings.LastIndexByte -/
def F14 : IFun :=
 ⟨8,
 (.seq
  (.region [⟨(some 4), (.val (.mov (.const (.int .i64 0)))), none⟩])
  (.seq
   (.region [⟨(some 5), (.val (.mov (.tmp 0))), none⟩,
     ⟨(some 6), (.val (.mov (.tmp 1))), none⟩,
     ⟨(some 7), (.call (.const (.func 21 [] [])) [(.tmp 5), (.tmp 6)]), none⟩,
     ⟨(some 4), (.val (.mov (.tmp 7))), none⟩])
   .ret)),
 [.tmp 4]⟩
theorem ok14 : cFun Try.prog G Try.f14 = some F14 := by kernel_rfl

/- balustrade/place.begin -/
def F15l0 : ICode :=
 (.seq
  (.seq
   (.region [⟨(some 14), (.val (.mov (.tmp 6))), none⟩,
     ⟨(some 15), (.val (.mov (.tmp 0))), none⟩,
     ⟨(some 16), (.val (.lenstr (.tmp 15))), none⟩,
     ⟨(some 17), (.val (.bin .lss (.tmp 14) (.tmp 16))), none⟩])
   (.cond (.tmp 17)
    .skip
    (.exit 2)))
  (.seq
   (.block 3
    (.seq
     (.region [⟨(some 20), (.val (.mov (.tmp 0))), none⟩,
       ⟨(some 21), (.val (.mov (.tmp 6))), none⟩,
       ⟨(some 22), (.val (.idxstr (.tmp 20) (.tmp 21))), none⟩,
       ⟨(some 23), (.val (.eq false (.prim 1) (.tmp 22) (.const (.int .u8 10)))), none⟩])
     (.cond (.tmp 23)
      (.seq
       (.region [⟨(some 24), (.val (.mov (.tmp 6))), none⟩,
         ⟨(some 25), (.val (.bin .add (.tmp 24) (.const (.int .i64 1)))), none⟩,
         ⟨(some 5), (.val (.mov (.tmp 25))), none⟩])
       (.exit 1))
      .skip)))
   (.region [⟨(some 18), (.val (.mov (.tmp 6))), none⟩,
     ⟨(some 19), (.val (.bin .add (.tmp 18) (.const (.int .i64 1)))), none⟩,
     ⟨(some 6), (.val (.mov (.tmp 19))), none⟩])))
def F15l1 : ICode :=
 (.seq
  (.seq
   (.region [⟨(some 9), (.val (.mov (.tmp 1))), none⟩,
     ⟨(some 10), (.val (.bin .gtr (.tmp 9) (.const (.int .i64 1)))), none⟩])
   (.cond (.tmp 10)
    .skip
    (.exit 0)))
  (.seq
   (.block 1
    (.seq
     (.seq
      (.region [⟨(some 13), (.val (.mov (.tmp 5))), none⟩,
        ⟨(some 6), (.val (.mov (.tmp 13))), none⟩])
      (.block 2
       (.loop F15l0)))
     (.seq
      (.region [⟨(some 4), (.val (.mov (.const (.int .i64 (-1))))), none⟩])
      .ret)))
   (.region [⟨(some 11), (.val (.mov (.tmp 1))), none⟩,
     ⟨(some 12), (.val (.bin .sub (.tmp 11) (.const (.int .i64 1)))), none⟩,
     ⟨(some 1), (.val (.mov (.tmp 12))), none⟩])))
def F15 : IFun :=
 ⟨27,
 (.seq
  (.region [⟨(some 4), (.val (.mov (.const (.int .i64 0)))), none⟩])
  (.seq
   (.seq
    (.region [⟨(some 7), (.val (.mov (.tmp 1))), none⟩,
      ⟨(some 8), (.val (.bin .lss (.tmp 7) (.const (.int .i64 1)))), none⟩])
    (.cond (.tmp 8)
     (.seq
      (.region [⟨(some 4), (.val (.mov (.const (.int .i64 (-1))))), none⟩])
      .ret)
     .skip))
   (.seq
    (.region [⟨(some 5), (.val (.mov (.const (.int .i64 0)))), none⟩])
    (.seq
     .skip
     (.seq
      (.block 0
       (.loop F15l1))
      (.seq
       (.region [⟨(some 26), (.val (.mov (.tmp 5))), none⟩,
         ⟨(some 4), (.val (.mov (.tmp 26))), none⟩])
       .ret)))))),
 [.tmp 4]⟩
theorem ok15 : cFun Try.prog G Try.f15 = some F15 := by kernel_rfl

/- strings.IndexByte -/
def F16 : IFun :=
 ⟨8,
 (.seq
  (.region [⟨(some 4), (.val (.mov (.const (.int .i64 0)))), none⟩])
  (.seq
   (.region [⟨(some 5), (.val (.mov (.tmp 0))), none⟩,
     ⟨(some 6), (.val (.mov (.tmp 1))), none⟩,
     ⟨(some 7), (.call (.const (.func 22 [] [])) [(.tmp 5), (.tmp 6)]), none⟩,
     ⟨(some 4), (.val (.mov (.tmp 7))), none⟩])
   .ret)),
 [.tmp 4]⟩
theorem ok16 : cFun Try.prog G Try.f16 = some F16 := by kernel_rfl

/- strings.Cut -/
def F17 : IFun :=
 ⟨13,
 (.seq
  (.region [⟨(some 4), (.val (.mov (.const (.str [])))), none⟩,
    ⟨(some 5), (.val (.mov (.const (.str [])))), none⟩,
    ⟨(some 6), (.val (.mov (.const (.bool false)))), none⟩])
  (.seq
   (.region [⟨(some 7), (.val (.mov (.tmp 0))), none⟩,
     ⟨(some 8), (.val (.mov (.tmp 1))), none⟩,
     ⟨(some 9), (.call (.const (.func 23 [] [])) [(.tmp 7), (.tmp 8)]), none⟩,
     ⟨(some 10), (.val (.extract (.tmp 9) 0)), none⟩,
     ⟨(some 11), (.val (.extract (.tmp 9) 1)), none⟩,
     ⟨(some 12), (.val (.extract (.tmp 9) 2)), none⟩,
     ⟨(some 4), (.val (.mov (.tmp 10))), none⟩,
     ⟨(some 5), (.val (.mov (.tmp 11))), none⟩,
     ⟨(some 6), (.val (.mov (.tmp 12))), none⟩])
   .ret)),
 [.tmp 4, .tmp 5, .tmp 6]⟩
theorem ok17 : cFun Try.prog G Try.f17 = some F17 := by kernel_rfl

/- strings.Index -/
def F20 : IFun :=
 ⟨8,
 (.seq
  (.region [⟨(some 4), (.val (.mov (.const (.int .i64 0)))), none⟩])
  (.seq
   (.region [⟨(some 5), (.val (.mov (.tmp 0))), none⟩,
     ⟨(some 6), (.val (.mov (.tmp 1))), none⟩,
     ⟨(some 7), (.call (.const (.func 24 [] [])) [(.tmp 5), (.tmp 6)]), none⟩,
     ⟨(some 4), (.val (.mov (.tmp 7))), none⟩])
   .ret)),
 [.tmp 4]⟩
theorem ok20 : cFun Try.prog G Try.f20 = some F20 := by kernel_rfl

/- internal/bytealg.LastIndexByteString -/
def F21l0 : ICode :=
 (.seq
  (.seq
   (.region [⟨(some 9), (.val (.mov (.tmp 5))), none⟩,
     ⟨(some 10), (.val (.bin .geq (.tmp 9) (.const (.int .i64 0)))), none⟩])
   (.cond (.tmp 10)
    .skip
    (.exit 0)))
  (.seq
   (.block 1
    (.seq
     (.region [⟨(some 13), (.val (.mov (.tmp 0))), none⟩,
       ⟨(some 14), (.val (.mov (.tmp 5))), none⟩,
       ⟨(some 15), (.val (.idxstr (.tmp 13) (.tmp 14))), none⟩,
       ⟨(some 16), (.val (.mov (.tmp 1))), none⟩,
       ⟨(some 17), (.val (.eq false (.prim 1) (.tmp 15) (.tmp 16))), none⟩])
     (.cond (.tmp 17)
      (.seq
       (.region [⟨(some 18), (.val (.mov (.tmp 5))), none⟩,
         ⟨(some 4), (.val (.mov (.tmp 18))), none⟩])
       .ret)
      .skip)))
   (.region [⟨(some 11), (.val (.mov (.tmp 5))), none⟩,
     ⟨(some 12), (.val (.bin .sub (.tmp 11) (.const (.int .i64 1)))), none⟩,
     ⟨(some 5), (.val (.mov (.tmp 12))), none⟩])))
def F21 : IFun :=
 ⟨19,
 (.seq
  (.region [⟨(some 4), (.val (.mov (.const (.int .i64 0)))), none⟩])
  (.seq
   (.seq
    (.region [⟨(some 6), (.val (.mov (.tmp 0))), none⟩,
      ⟨(some 7), (.val (.lenstr (.tmp 6))), none⟩,
      ⟨(some 8), (.val (.bin .sub (.tmp 7) (.const (.int .i64 1)))), none⟩,
      ⟨(some 5), (.val (.mov (.tmp 8))), none⟩])
    (.block 0
     (.loop F21l0)))
   (.seq
    (.region [⟨(some 4), (.val (.mov (.const (.int .i64 (-1))))), none⟩])
    .ret))),
 [.tmp 4]⟩
theorem ok21 : cFun Try.prog G Try.f21 = some F21 := by kernel_rfl

/- internal/stringslite.IndexByte -/
def F22 : IFun :=
 ⟨8,
 (.seq
  (.region [⟨(some 4), (.val (.mov (.const (.int .i64 0)))), none⟩])
  (.seq
   (.region [⟨(some 5), (.val (.mov (.tmp 0))), none⟩,
     ⟨(some 6), (.val (.mov (.tmp 1))), none⟩,
     ⟨(some 7), (.call (.const (.func 25 [] [])) [(.tmp 5), (.tmp 6)]), none⟩,
     ⟨(some 4), (.val (.mov (.tmp 7))), none⟩])
   .ret)),
 [.tmp 4]⟩
theorem ok22 : cFun Try.prog G Try.f22 = some F22 := by kernel_rfl

/- internal/stringslite.Cut -/
def F23 : IFun :=
 ⟨23,
 (.seq
  (.region [⟨(some 4), (.val (.mov (.const (.str [])))), none⟩,
    ⟨(some 5), (.val (.mov (.const (.str [])))), none⟩,
    ⟨(some 6), (.val (.mov (.const (.bool false)))), none⟩])
  (.seq
   (.seq
    (.region [⟨(some 8), (.val (.mov (.tmp 0))), none⟩,
      ⟨(some 9), (.val (.mov (.tmp 1))), none⟩,
      ⟨(some 10), (.call (.const (.func 24 [] [])) [(.tmp 8), (.tmp 9)]), none⟩,
      ⟨(some 7), (.val (.mov (.tmp 10))), none⟩])
    (.seq
     (.region [⟨(some 11), (.val (.mov (.tmp 7))), none⟩,
       ⟨(some 12), (.val (.bin .geq (.tmp 11) (.const (.int .i64 0)))), none⟩])
     (.cond (.tmp 12)
      (.seq
       (.draw [⟨(some 13), (.val (.mov (.tmp 0))), none⟩,
         ⟨(some 14), (.val (.mov (.tmp 7))), none⟩,
         ⟨(some 15), (.val (.slstr (.tmp 13) none (some (.tmp 14)))), none⟩,
         ⟨(some 16), (.val (.mov (.tmp 0))), none⟩,
         ⟨(some 17), (.val (.mov (.tmp 7))), none⟩,
         ⟨(some 18), (.val (.mov (.tmp 1))), none⟩,
         ⟨(some 19), (.val (.lenstr (.tmp 18))), none⟩,
         ⟨(some 20), (.val (.bin .add (.tmp 17) (.tmp 19))), none⟩,
         ⟨(some 21), (.val (.slstr (.tmp 16) (some (.tmp 20)) none)), none⟩,
         ⟨(some 4), (.val (.mov (.tmp 15))), none⟩,
         ⟨(some 5), (.val (.mov (.tmp 21))), none⟩,
         ⟨(some 6), (.val (.mov (.const (.bool true)))), none⟩] [])
       .ret)
      .skip)))
   (.seq
    (.region [⟨(some 22), (.val (.mov (.tmp 0))), none⟩,
      ⟨(some 4), (.val (.mov (.tmp 22))), none⟩,
      ⟨(some 5), (.val (.mov (.const (.str [])))), none⟩,
      ⟨(some 6), (.val (.mov (.const (.bool false)))), none⟩])
    .ret))),
 [.tmp 4, .tmp 5, .tmp 6]⟩
theorem ok23 : cFun Try.prog G Try.f23 = some F23 := by kernel_rfl

end Go.Proofs.Ytonjfghdakmffaa.Ev
