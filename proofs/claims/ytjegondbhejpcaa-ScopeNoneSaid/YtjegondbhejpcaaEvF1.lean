/- The evaluator's code of the given functions, printed by program (EvPut); part 1. -/
import Derived.Test.YtjegondbhejpcaaEvF0
namespace Go.Proofs.Ytjegondbhejpcaa.Ev
open Go

/- (*balustrade/scope.Scopes).Declare -/
def F15 : IFun :=
 ⟨86,
 (.seq
  (.region [⟨(some 6), (.val (.mov (.const (.int .i64 0)))), none⟩,
    ⟨(some 7), (.val (.mov (.const (.bool false)))), none⟩])
  (.seq
   (.region [⟨(some 11), (.val (.mov (.tmp 0))), none⟩,
     ⟨(some 12), (.val (.mov (.tmp 1))), none⟩,
     ⟨(some 13), (.call (.const (.func 20 [] [])) [(.tmp 11), (.tmp 12)]), none⟩,
     ⟨(some 10), (.val (.mov (.tmp 13))), none⟩,
     ⟨(some 14), (.val (.extract (.tmp 10) 0)), none⟩,
     ⟨(some 15), (.val (.extract (.tmp 10) 1)), none⟩,
     ⟨(some 8), (.val (.alloc 55 [(.int .i64 0), (.int .i64 0), (.int .i64 0)])), none⟩,
     ⟨none, (.val (.store 3 (.tmp 8) (.tmp 14))), none⟩,
     ⟨(some 9), (.val (.mov (.tmp 15))), none⟩])
   (.seq
    (.seq
     (.draw [⟨(some 16), (.val (.mov (.tmp 0))), none⟩,
       ⟨(some 17), (.call (.const (.func 21 [] [])) [(.tmp 16)]), none⟩,
       ⟨(some 18), (.val (.un .not (.tmp 17))), none⟩,
       ⟨(some 19), (.val (.mov (.tmp 18))), none⟩,
       ⟨(some 20), (.val (.mov (.tmp 2))), (some (19, false))⟩,
       ⟨(some 21), (.val (.bin .lss (.tmp 20) (.const (.int .i64 1)))), (some (19, false))⟩,
       ⟨(some 22), (.val (.pick (.tmp 19) (.const (.bool true)) (.tmp 21))), none⟩,
       ⟨(some 23), (.val (.mov (.tmp 22))), none⟩,
       ⟨(some 24), (.val (.mov (.tmp 2))), (some (23, false))⟩,
       ⟨(some 25), (.val (.bin .gtr (.tmp 24) (.const (.int .i64 3)))), (some (23, false))⟩,
       ⟨(some 26), (.val (.pick (.tmp 23) (.const (.bool true)) (.tmp 25))), none⟩,
       ⟨(some 27), (.val (.mov (.tmp 26))), none⟩,
       ⟨(some 28), (.val (.mov (.tmp 9))), (some (27, false))⟩,
       ⟨(some 29), (.val (.mov (.tmp 28))), (some (27, false))⟩,
       ⟨(some 30), (.val (.faddr 2 (.tmp 8))), (some (29, true))⟩,
       ⟨(some 31), (.val (.load none (.tmp 30))), (some (29, true))⟩,
       ⟨(some 32), (.val (.mov (.tmp 0))), (some (29, true))⟩,
       ⟨(some 33), (.val (.nilck (.tmp 32))), (some (29, true))⟩,
       ⟨(some 34), (.val (.faddr 3 (.tmp 33))), (some (29, true))⟩,
       ⟨(some 35), (.val (.load none (.tmp 34))), (some (29, true))⟩,
       ⟨(some 36), (.val (.eq false (.prim 1) (.tmp 31) (.tmp 35))), (some (29, true))⟩,
       ⟨(some 37), (.val (.pick (.tmp 29) (.tmp 36) (.const (.bool false)))), (some (27, false))⟩,
       ⟨(some 38), (.val (.pick (.tmp 27) (.const (.bool true)) (.tmp 37))), none⟩] [])
     (.cond (.tmp 38)
      (.seq
       (.region [⟨(some 6), (.val (.mov (.const (.int .i64 0)))), none⟩,
         ⟨(some 7), (.val (.mov (.const (.bool false)))), none⟩])
       .ret)
      .skip))
    (.seq
     (.draw [⟨(some 39), (.val (.mov (.tmp 0))), none⟩,
       ⟨(some 40), (.val (.nilck (.tmp 39))), none⟩,
       ⟨(some 41), (.val (.faddr 2 (.tmp 40))), none⟩,
       ⟨(some 42), (.val (.load none (.tmp 41))), none⟩,
       ⟨(some 43), (.val (.len (.tmp 42))), none⟩,
       ⟨(some 44), (.val (.mov (.tmp 2))), none⟩,
       ⟨(some 45), (.val (.mov (.tmp 0))), none⟩,
       ⟨(some 46), (.val (.nilck (.tmp 45))), none⟩,
       ⟨(some 47), (.val (.faddr 3 (.tmp 46))), none⟩,
       ⟨(some 48), (.val (.load none (.tmp 47))), none⟩,
       ⟨(some 49), (.val (.build [(.int .i64 0), (.int .i64 0), (.int .i64 0)] [(0, 1, (.tmp 43)), (1, 1, (.tmp 44)), (2, 1, (.tmp 48))])), none⟩,
       ⟨none, (.val (.store 3 (.tmp 8) (.tmp 49))), none⟩] [])
     (.seq
      (.draw [⟨(some 50), (.val (.mov (.tmp 0))), none⟩,
        ⟨(some 51), (.val (.nilck (.tmp 50))), none⟩,
        ⟨(some 52), (.val (.faddr 0 (.tmp 51))), none⟩,
        ⟨(some 53), (.val (.load none (.tmp 52))), none⟩,
        ⟨(some 54), (.val (.mov (.tmp 1))), none⟩,
        ⟨(some 55), (.val (.mov (.tmp 0))), none⟩,
        ⟨(some 56), (.val (.nilck (.tmp 55))), none⟩,
        ⟨(some 57), (.val (.faddr 0 (.tmp 56))), none⟩,
        ⟨(some 58), (.val (.load none (.tmp 57))), none⟩,
        ⟨(some 59), (.val (.mov (.tmp 1))), none⟩,
        ⟨(some 60), (.val (.lookup 1 .nilslice false (.tmp 58) (.tmp 59))), none⟩,
        ⟨(some 61), (.val (.load (some 3) (.tmp 8))), none⟩,
        ⟨(some 62), (.val (.bslice 55 3 1 [(.int .i64 0), (.int .i64 0), (.int .i64 0)] [(0, (.tmp 61))])), none⟩,
        ⟨(some 63), (.val (.append 55 3 24 (.tmp 60) (.tmp 62))), none⟩,
        ⟨none, (.val (.mapupd 1 (.tmp 53) (.tmp 54) (.tmp 63))), none⟩] [(3, 10), (11, 10), (3, 13)])
      (.seq
       (.region [⟨(some 64), (.val (.mov (.tmp 0))), none⟩,
         ⟨(some 65), (.val (.mov (.tmp 0))), none⟩,
         ⟨(some 66), (.val (.nilck (.tmp 65))), none⟩,
         ⟨(some 67), (.val (.faddr 1 (.tmp 66))), none⟩,
         ⟨(some 68), (.val (.load none (.tmp 67))), none⟩,
         ⟨(some 69), (.val (.mov (.tmp 1))), none⟩,
         ⟨(some 70), (.val (.bslice 9 1 1 [(.str [])] [(0, (.tmp 69))])), none⟩,
         ⟨(some 71), (.val (.append 9 1 16 (.tmp 68) (.tmp 70))), none⟩,
         ⟨(some 72), (.val (.nilck (.tmp 64))), none⟩,
         ⟨(some 73), (.val (.faddr 1 (.tmp 72))), none⟩,
         ⟨none, (.val (.store 1 (.tmp 73) (.tmp 71))), none⟩])
       (.seq
        (.region [⟨(some 74), (.val (.mov (.tmp 0))), none⟩,
          ⟨(some 75), (.val (.mov (.tmp 0))), none⟩,
          ⟨(some 76), (.val (.nilck (.tmp 75))), none⟩,
          ⟨(some 77), (.val (.faddr 2 (.tmp 76))), none⟩,
          ⟨(some 78), (.val (.load none (.tmp 77))), none⟩,
          ⟨(some 79), (.val (.mov (.tmp 2))), none⟩,
          ⟨(some 80), (.val (.bslice 3 1 1 [(.int .i64 0)] [(0, (.tmp 79))])), none⟩,
          ⟨(some 81), (.val (.append 3 1 8 (.tmp 78) (.tmp 80))), none⟩,
          ⟨(some 82), (.val (.nilck (.tmp 74))), none⟩,
          ⟨(some 83), (.val (.faddr 2 (.tmp 82))), none⟩,
          ⟨none, (.val (.store 1 (.tmp 83) (.tmp 81))), none⟩])
        (.seq
         (.region [⟨(some 84), (.val (.faddr 0 (.tmp 8))), none⟩,
           ⟨(some 85), (.val (.load none (.tmp 84))), none⟩,
           ⟨(some 6), (.val (.mov (.tmp 85))), none⟩,
           ⟨(some 7), (.val (.mov (.const (.bool true)))), none⟩])
         .ret)))))))),
 [.tmp 6, .tmp 7]⟩
theorem ok15 : cFun Try.prog G Try.f15 = some F15 := by kernel_rfl

/- balustrade/balustraderef10.New -/
def F16 : IFun :=
 ⟨2,
 (.seq
  (.region [⟨(some 0), (.val (.alloc 43 [.nilslice, .nilslice, (.int .i64 0)])), none⟩])
  (.seq
   (.region [⟨(some 1), (.val (.build [.nilslice, .nilslice, (.int .i64 0)] [(2, 1, (.const (.int .i64 1)))])), none⟩,
     ⟨none, (.val (.store 3 (.tmp 0) (.tmp 1))), none⟩])
   .ret)),
 [.cell 0 (some 3)]⟩
theorem ok16 : cFun Try.prog G Try.f16 = some F16 := by kernel_rfl

/- balustrade/balustraderef10.Close -/
def F17l0 : ICode :=
 (.seq
  (.seq
   (.region [⟨(some 11), (.val (.mov (.tmp 4))), none⟩,
     ⟨(some 12), (.val (.faddr 0 (.tmp 1))), none⟩,
     ⟨(some 13), (.val (.load none (.tmp 12))), none⟩,
     ⟨(some 14), (.val (.len (.tmp 13))), none⟩,
     ⟨(some 15), (.val (.bin .lss (.tmp 11) (.tmp 14))), none⟩])
   (.cond (.tmp 15)
    .skip
    (.exit 0)))
  (.seq
   (.block 1
    (.seq
     (.draw [⟨(some 18), (.val (.faddr 0 (.tmp 1))), none⟩,
       ⟨(some 19), (.val (.load none (.tmp 18))), none⟩,
       ⟨(some 20), (.val (.mov (.tmp 4))), none⟩,
       ⟨(some 21), (.val (.iaddr 4 (.tmp 19) (.tmp 20))), none⟩,
       ⟨(some 22), (.val (.faddr 1 (.tmp 21))), none⟩,
       ⟨(some 23), (.val (.load none (.tmp 22))), none⟩,
       ⟨(some 24), (.val (.faddr 2 (.tmp 1))), none⟩,
       ⟨(some 25), (.val (.load none (.tmp 24))), none⟩,
       ⟨(some 26), (.val (.bin .lss (.tmp 23) (.tmp 25))), none⟩] [])
     (.cond (.tmp 26)
      (.draw [⟨(some 27), (.val (.faddr 0 (.tmp 3))), none⟩,
        ⟨(some 28), (.val (.load none (.tmp 27))), none⟩,
        ⟨(some 29), (.val (.faddr 0 (.tmp 1))), none⟩,
        ⟨(some 30), (.val (.load none (.tmp 29))), none⟩,
        ⟨(some 31), (.val (.mov (.tmp 4))), none⟩,
        ⟨(some 32), (.val (.iaddr 4 (.tmp 30) (.tmp 31))), none⟩,
        ⟨(some 33), (.val (.load (some 4) (.tmp 32))), none⟩,
        ⟨(some 34), (.val (.bslice 52 4 1 [(.str []), (.int .i64 0), (.int .i64 0), (.int .i64 0)] [(0, (.tmp 33))])), none⟩,
        ⟨(some 35), (.val (.append 52 4 40 (.tmp 28) (.tmp 34))), none⟩,
        ⟨(some 36), (.val (.faddr 0 (.tmp 3))), none⟩,
        ⟨none, (.val (.store 1 (.tmp 36) (.tmp 35))), none⟩] [])
      .skip)))
   (.region [⟨(some 16), (.val (.mov (.tmp 4))), none⟩,
     ⟨(some 17), (.val (.bin .add (.tmp 16) (.const (.int .i64 1)))), none⟩,
     ⟨(some 4), (.val (.mov (.tmp 17))), none⟩])))
def F17 : IFun :=
 ⟨38,
 (.seq
  (.region [⟨(some 1), (.val (.box 43 (.tmp 0))), none⟩,
    ⟨(some 2), (.val (.alloc 43 [.nilslice, .nilslice, (.int .i64 0)])), none⟩])
  (.seq
   (.region [⟨(some 5), (.val (.faddr 1 (.tmp 1))), none⟩,
     ⟨(some 6), (.val (.load none (.tmp 5))), none⟩,
     ⟨(some 7), (.val (.faddr 2 (.tmp 1))), none⟩,
     ⟨(some 8), (.val (.load none (.tmp 7))), none⟩,
     ⟨(some 9), (.val (.bin .sub (.tmp 8) (.const (.int .i64 1)))), none⟩,
     ⟨(some 10), (.val (.build [.nilslice, .nilslice, (.int .i64 0)] [(1, 1, (.tmp 6)), (2, 1, (.tmp 9))])), none⟩,
     ⟨(some 3), (.val (.alloc 43 [.nilslice, .nilslice, (.int .i64 0)])), none⟩,
     ⟨none, (.val (.store 3 (.tmp 3) (.tmp 10))), none⟩])
   (.seq
    (.seq
     (.region [⟨(some 4), (.val (.mov (.const (.int .i64 0)))), none⟩])
     (.block 0
      (.loop F17l0)))
    (.seq
     (.region [⟨(some 37), (.val (.load (some 3) (.tmp 3))), none⟩,
       ⟨none, (.val (.store 3 (.tmp 2) (.tmp 37))), none⟩])
     .ret)))),
 [.cell 2 (some 3)]⟩
theorem ok17 : cFun Try.prog G Try.f17 = some F17 := by kernel_rfl

/- balustrade/balustraderef10.Declare -/
def F18 : IFun :=
 ⟨61,
 (.seq
  (.region [⟨(some 3), (.val (.box 43 (.tmp 0))), none⟩,
    ⟨(some 6), (.val (.alloc 43 [.nilslice, .nilslice, (.int .i64 0)])), none⟩,
    ⟨(some 7), (.val (.mov (.const (.bool false)))), none⟩])
  (.seq
   (.region [⟨(some 11), (.val (.load (some 3) (.tmp 3))), none⟩,
     ⟨(some 12), (.val (.mov (.tmp 1))), none⟩,
     ⟨(some 13), (.call (.const (.func 19 [] [])) [(.tmp 11), (.tmp 12)]), none⟩,
     ⟨(some 8), (.val (.mov (.tmp 13))), none⟩])
   (.seq
    (.seq
     (.draw [⟨(some 14), (.val (.mov (.tmp 2))), none⟩,
       ⟨(some 15), (.val (.bin .lss (.tmp 14) (.const (.int .i64 1)))), none⟩,
       ⟨(some 16), (.val (.mov (.tmp 15))), none⟩,
       ⟨(some 17), (.val (.mov (.tmp 2))), (some (16, false))⟩,
       ⟨(some 18), (.val (.bin .gtr (.tmp 17) (.const (.int .i64 3)))), (some (16, false))⟩,
       ⟨(some 19), (.val (.pick (.tmp 16) (.const (.bool true)) (.tmp 18))), none⟩,
       ⟨(some 20), (.val (.mov (.tmp 19))), none⟩,
       ⟨(some 21), (.val (.mov (.tmp 8))), (some (20, false))⟩,
       ⟨(some 22), (.val (.bin .geq (.tmp 21) (.const (.int .i64 0)))), (some (20, false))⟩,
       ⟨(some 23), (.val (.mov (.tmp 22))), (some (20, false))⟩,
       ⟨(some 24), (.val (.faddr 0 (.tmp 3))), (some (23, true))⟩,
       ⟨(some 25), (.val (.load none (.tmp 24))), (some (23, true))⟩,
       ⟨(some 26), (.val (.mov (.tmp 8))), (some (23, true))⟩,
       ⟨(some 27), (.val (.iaddr 4 (.tmp 25) (.tmp 26))), (some (23, true))⟩,
       ⟨(some 28), (.val (.faddr 1 (.tmp 27))), (some (23, true))⟩,
       ⟨(some 29), (.val (.load none (.tmp 28))), (some (23, true))⟩,
       ⟨(some 30), (.val (.faddr 2 (.tmp 3))), (some (23, true))⟩,
       ⟨(some 31), (.val (.load none (.tmp 30))), (some (23, true))⟩,
       ⟨(some 32), (.val (.eq false (.prim 1) (.tmp 29) (.tmp 31))), (some (23, true))⟩,
       ⟨(some 33), (.val (.pick (.tmp 23) (.tmp 32) (.const (.bool false)))), (some (20, false))⟩,
       ⟨(some 34), (.val (.pick (.tmp 20) (.const (.bool true)) (.tmp 33))), none⟩] [])
     (.cond (.tmp 34)
      (.seq
       (.region [⟨(some 35), (.val (.load (some 3) (.tmp 3))), none⟩,
         ⟨none, (.val (.store 3 (.tmp 6) (.tmp 35))), none⟩,
         ⟨(some 7), (.val (.mov (.const (.bool false)))), none⟩])
       .ret)
      .skip))
    (.seq
     (.region [⟨(some 36), (.val (.bslice 52 4 0 [(.str []), (.int .i64 0), (.int .i64 0), (.int .i64 0)] [])), none⟩,
       ⟨(some 37), (.val (.faddr 0 (.tmp 3))), none⟩,
       ⟨(some 38), (.val (.load none (.tmp 37))), none⟩,
       ⟨(some 39), (.val (.append 52 4 40 (.tmp 36) (.tmp 38))), none⟩,
       ⟨(some 9), (.val (.mov (.tmp 39))), none⟩])
     (.seq
      (.region [⟨(some 40), (.val (.bslice 3 1 0 [(.int .i64 0)] [])), none⟩,
        ⟨(some 41), (.val (.faddr 1 (.tmp 3))), none⟩,
        ⟨(some 42), (.val (.load none (.tmp 41))), none⟩,
        ⟨(some 43), (.val (.append 3 1 8 (.tmp 40) (.tmp 42))), none⟩,
        ⟨(some 10), (.val (.mov (.tmp 43))), none⟩])
      (.seq
       (.draw [⟨(some 44), (.val (.mov (.tmp 9))), none⟩,
         ⟨(some 45), (.val (.mov (.tmp 1))), none⟩,
         ⟨(some 46), (.val (.faddr 2 (.tmp 3))), none⟩,
         ⟨(some 47), (.val (.load none (.tmp 46))), none⟩,
         ⟨(some 48), (.val (.mov (.tmp 10))), none⟩,
         ⟨(some 49), (.val (.len (.tmp 48))), none⟩,
         ⟨(some 50), (.val (.mov (.tmp 2))), none⟩,
         ⟨(some 51), (.val (.build [(.str []), (.int .i64 0), (.int .i64 0), (.int .i64 0)] [(0, 1, (.tmp 45)), (1, 1, (.tmp 47)), (2, 1, (.tmp 49)), (3, 1, (.tmp 50))])), none⟩,
         ⟨(some 52), (.val (.bslice 52 4 1 [(.str []), (.int .i64 0), (.int .i64 0), (.int .i64 0)] [(0, (.tmp 51))])), none⟩,
         ⟨(some 53), (.val (.append 52 4 40 (.tmp 44) (.tmp 52))), none⟩,
         ⟨(some 54), (.val (.mov (.tmp 10))), none⟩,
         ⟨(some 55), (.val (.mov (.tmp 2))), none⟩,
         ⟨(some 56), (.val (.bslice 3 1 1 [(.int .i64 0)] [(0, (.tmp 55))])), none⟩,
         ⟨(some 57), (.val (.append 3 1 8 (.tmp 54) (.tmp 56))), none⟩,
         ⟨(some 58), (.val (.faddr 2 (.tmp 3))), none⟩,
         ⟨(some 59), (.val (.load none (.tmp 58))), none⟩,
         ⟨(some 60), (.val (.build [.nilslice, .nilslice, (.int .i64 0)] [(0, 1, (.tmp 53)), (1, 1, (.tmp 57)), (2, 1, (.tmp 59))])), none⟩,
         ⟨none, (.val (.store 3 (.tmp 6) (.tmp 60))), none⟩,
         ⟨(some 7), (.val (.mov (.const (.bool true)))), none⟩] [(15, 9), (15, 13)])
       .ret)))))),
 [.cell 6 (some 3), .tmp 7]⟩
theorem ok18 : cFun Try.prog G Try.f18 = some F18 := by kernel_rfl

/- balustrade/balustraderef10.Find -/
def F19l0 : ICode :=
 (.seq
  (.seq
   (.region [⟨(some 7), (.val (.mov (.tmp 6))), none⟩,
     ⟨(some 8), (.val (.faddr 0 (.tmp 2))), none⟩,
     ⟨(some 9), (.val (.load none (.tmp 8))), none⟩,
     ⟨(some 10), (.val (.len (.tmp 9))), none⟩,
     ⟨(some 11), (.val (.bin .lss (.tmp 7) (.tmp 10))), none⟩])
   (.cond (.tmp 11)
    .skip
    (.exit 0)))
  (.seq
   (.block 1
    (.seq
     (.region [⟨(some 14), (.val (.faddr 0 (.tmp 2))), none⟩,
       ⟨(some 15), (.val (.load none (.tmp 14))), none⟩,
       ⟨(some 16), (.val (.mov (.tmp 6))), none⟩,
       ⟨(some 17), (.val (.iaddr 4 (.tmp 15) (.tmp 16))), none⟩,
       ⟨(some 18), (.val (.faddr 0 (.tmp 17))), none⟩,
       ⟨(some 19), (.val (.load none (.tmp 18))), none⟩,
       ⟨(some 20), (.val (.mov (.tmp 1))), none⟩,
       ⟨(some 21), (.val (.eq false (.prim 2) (.tmp 19) (.tmp 20))), none⟩])
     (.cond (.tmp 21)
      (.region [⟨(some 22), (.val (.mov (.tmp 6))), none⟩,
        ⟨(some 5), (.val (.mov (.tmp 22))), none⟩])
      .skip)))
   (.region [⟨(some 12), (.val (.mov (.tmp 6))), none⟩,
     ⟨(some 13), (.val (.bin .add (.tmp 12) (.const (.int .i64 1)))), none⟩,
     ⟨(some 6), (.val (.mov (.tmp 13))), none⟩])))
def F19 : IFun :=
 ⟨24,
 (.seq
  (.region [⟨(some 2), (.val (.box 43 (.tmp 0))), none⟩,
    ⟨(some 4), (.val (.mov (.const (.int .i64 0)))), none⟩])
  (.seq
   (.region [⟨(some 5), (.val (.mov (.const (.int .i64 (-1))))), none⟩])
   (.seq
    (.seq
     (.region [⟨(some 6), (.val (.mov (.const (.int .i64 0)))), none⟩])
     (.block 0
      (.loop F19l0)))
    (.seq
     (.region [⟨(some 23), (.val (.mov (.tmp 5))), none⟩,
       ⟨(some 4), (.val (.mov (.tmp 23))), none⟩])
     .ret)))),
 [.tmp 4]⟩
theorem ok19 : cFun Try.prog G Try.f19 = some F19 := by kernel_rfl

/- (*balustrade/scope.Scopes).last -/
def F20 : IFun :=
 ⟨27,
 (.seq
  (.region [⟨(some 4), (.val (.alloc 55 [(.int .i64 0), (.int .i64 0), (.int .i64 0)])), none⟩,
    ⟨(some 5), (.val (.mov (.const (.bool false)))), none⟩])
  (.seq
   (.seq
    (.region [⟨(some 7), (.val (.mov (.tmp 0))), none⟩,
      ⟨(some 8), (.call (.const (.func 21 [] [])) [(.tmp 7)]), none⟩,
      ⟨(some 9), (.val (.un .not (.tmp 8))), none⟩])
    (.cond (.tmp 9)
     (.seq
      (.region [⟨(some 10), (.val (.build [(.int .i64 0), (.int .i64 0), (.int .i64 0)] [])), none⟩,
        ⟨none, (.val (.store 3 (.tmp 4) (.tmp 10))), none⟩,
        ⟨(some 5), (.val (.mov (.const (.bool false)))), none⟩])
      .ret)
     .skip))
   (.seq
    (.region [⟨(some 11), (.val (.mov (.tmp 0))), none⟩,
      ⟨(some 12), (.val (.nilck (.tmp 11))), none⟩,
      ⟨(some 13), (.val (.faddr 0 (.tmp 12))), none⟩,
      ⟨(some 14), (.val (.load none (.tmp 13))), none⟩,
      ⟨(some 15), (.val (.mov (.tmp 1))), none⟩,
      ⟨(some 16), (.val (.lookup 1 .nilslice false (.tmp 14) (.tmp 15))), none⟩,
      ⟨(some 6), (.val (.mov (.tmp 16))), none⟩])
    (.seq
     (.seq
      (.region [⟨(some 17), (.val (.mov (.tmp 6))), none⟩,
        ⟨(some 18), (.val (.len (.tmp 17))), none⟩,
        ⟨(some 19), (.val (.eq false (.prim 1) (.tmp 18) (.const (.int .i64 0)))), none⟩])
      (.cond (.tmp 19)
       (.seq
        (.region [⟨(some 20), (.val (.build [(.int .i64 0), (.int .i64 0), (.int .i64 0)] [])), none⟩,
          ⟨none, (.val (.store 3 (.tmp 4) (.tmp 20))), none⟩,
          ⟨(some 5), (.val (.mov (.const (.bool false)))), none⟩])
        .ret)
       .skip))
     (.seq
      (.region [⟨(some 21), (.val (.mov (.tmp 6))), none⟩,
        ⟨(some 22), (.val (.mov (.tmp 6))), none⟩,
        ⟨(some 23), (.val (.len (.tmp 22))), none⟩,
        ⟨(some 24), (.val (.bin .sub (.tmp 23) (.const (.int .i64 1)))), none⟩,
        ⟨(some 25), (.val (.iaddr 3 (.tmp 21) (.tmp 24))), none⟩,
        ⟨(some 26), (.val (.load (some 3) (.tmp 25))), none⟩,
        ⟨none, (.val (.store 3 (.tmp 4) (.tmp 26))), none⟩,
        ⟨(some 5), (.val (.mov (.const (.bool true)))), none⟩])
      .ret))))),
 [.cell 4 (some 3), .tmp 5]⟩
theorem ok20 : cFun Try.prog G Try.f20 = some F20 := by kernel_rfl

/- (*balustrade/scope.Scopes).made -/
def F21 : IFun :=
 ⟨12,
 (.seq
  (.region [⟨(some 2), (.val (.mov (.const (.bool false)))), none⟩])
  (.seq
   (.region [⟨(some 3), (.val (.mov (.tmp 0))), none⟩,
     ⟨(some 4), (.val (.eq true (.prim 3) (.tmp 3) (.const .nilptr))), none⟩,
     ⟨(some 5), (.val (.mov (.tmp 4))), none⟩,
     ⟨(some 6), (.val (.mov (.tmp 0))), (some (5, true))⟩,
     ⟨(some 7), (.val (.nilck (.tmp 6))), (some (5, true))⟩,
     ⟨(some 8), (.val (.faddr 3 (.tmp 7))), (some (5, true))⟩,
     ⟨(some 9), (.val (.load none (.tmp 8))), (some (5, true))⟩,
     ⟨(some 10), (.val (.bin .gtr (.tmp 9) (.const (.int .i64 0)))), (some (5, true))⟩,
     ⟨(some 11), (.val (.pick (.tmp 5) (.tmp 10) (.const (.bool false)))), none⟩,
     ⟨(some 2), (.val (.mov (.tmp 11))), none⟩])
   .ret)),
 [.tmp 2]⟩
theorem ok21 : cFun Try.prog G Try.f21 = some F21 := by kernel_rfl

end Go.Proofs.Ytjegondbhejpcaa.Ev
