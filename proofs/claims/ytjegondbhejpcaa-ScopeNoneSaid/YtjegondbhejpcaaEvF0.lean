/- The evaluator's code of the given functions, printed by program (EvPut); part 0. -/
import Derived.KernelRfl
import Derived.Test.YtjegondbhejpcaaChecked
import Derived.Test.YtjegondbhejpcaaEvCode
namespace Go.Proofs.Ytjegondbhejpcaa.Ev
open Go
def G : List Nat := []

/- balustrade/balustradelaw10.ScopeBack -/
def F3l0 : ICode :=
 (.seq
  (.seq
   (.region [⟨(some 52), (.val (.mov (.tmp 7))), none⟩,
     ⟨(some 53), (.call (.const (.func 12 [] [])) [(.tmp 52)]), none⟩,
     ⟨(some 54), (.val (.mov (.tmp 8))), none⟩,
     ⟨(some 55), (.val (.bin .add (.tmp 54) (.const (.int .i64 1)))), none⟩,
     ⟨(some 56), (.val (.bin .gtr (.tmp 53) (.tmp 55))), none⟩])
   (.cond (.tmp 56)
    .skip
    (.exit 0)))
  (.block 1
   (.seq
    (.region [⟨(some 57), (.val (.mov (.tmp 7))), none⟩,
      ⟨(some 58), (.call (.const (.func 13 [] [])) [(.tmp 57)]), none⟩,
      ⟨(some 59), (.val (.un .not (.tmp 58))), none⟩])
    (.cond (.tmp 59)
     (.seq
      (.region [⟨(some 6), (.val (.mov (.const (.bool false)))), none⟩])
      .ret)
     .skip))))
def F3 : IFun :=
 ⟨115,
 (.seq
  (.region [⟨(some 6), (.val (.mov (.const (.bool false)))), none⟩])
  (.seq
   (.seq
    (.region [⟨(some 18), (.val (.mov (.tmp 0))), none⟩,
      ⟨(some 19), (.val (.len (.tmp 18))), none⟩,
      ⟨(some 20), (.val (.bin .gtr (.tmp 19) (.const (.int .i64 30)))), none⟩,
      ⟨(some 21), (.val (.mov (.tmp 20))), none⟩,
      ⟨(some 22), (.val (.mov (.tmp 1))), (some (21, false))⟩,
      ⟨(some 23), (.val (.len (.tmp 22))), (some (21, false))⟩,
      ⟨(some 24), (.val (.bin .gtr (.tmp 23) (.const (.int .i64 30)))), (some (21, false))⟩,
      ⟨(some 25), (.val (.pick (.tmp 21) (.const (.bool true)) (.tmp 24))), none⟩,
      ⟨(some 26), (.val (.mov (.tmp 25))), none⟩,
      ⟨(some 27), (.val (.mov (.tmp 2))), (some (26, false))⟩,
      ⟨(some 28), (.val (.lenstr (.tmp 27))), (some (26, false))⟩,
      ⟨(some 29), (.val (.bin .gtr (.tmp 28) (.const (.int .i64 40)))), (some (26, false))⟩,
      ⟨(some 30), (.val (.pick (.tmp 26) (.const (.bool true)) (.tmp 29))), none⟩])
    (.cond (.tmp 30)
     (.seq
      (.region [⟨(some 31), (.call (.const (.func 6 [] [])) []), none⟩,
        ⟨(some 6), (.val (.mov (.tmp 31))), none⟩])
      .ret)
     .skip))
   (.seq
    (.region [⟨(some 32), (.call (.const (.func 7 [] [])) []), none⟩,
      ⟨(some 7), (.val (.mov (.tmp 32))), none⟩])
    (.seq
     (.region [⟨(some 33), (.val (.mov (.tmp 7))), none⟩,
       ⟨(some 34), (.val (.mov (.tmp 0))), none⟩,
       ⟨(some 35), (.call (.const (.func 8 [] [])) [(.tmp 33), (.tmp 34), (.const (.int .i64 1))]), none⟩,
       ⟨(some 8), (.val (.mov (.tmp 35))), none⟩])
     (.seq
      (.region [⟨(some 37), (.val (.mov (.tmp 7))), none⟩,
        ⟨(some 38), (.val (.mov (.tmp 2))), none⟩,
        ⟨(some 39), (.call (.const (.func 9 [] [])) [(.tmp 37), (.tmp 38)]), none⟩,
        ⟨(some 36), (.val (.mov (.tmp 39))), none⟩,
        ⟨(some 40), (.val (.extract (.tmp 36) 0)), none⟩,
        ⟨(some 41), (.val (.extract (.tmp 36) 1)), none⟩,
        ⟨(some 42), (.val (.extract (.tmp 36) 2)), none⟩,
        ⟨(some 9), (.val (.mov (.tmp 40))), none⟩,
        ⟨(some 10), (.val (.mov (.tmp 41))), none⟩,
        ⟨(some 11), (.val (.mov (.tmp 42))), none⟩])
      (.seq
       (.region [⟨(some 43), (.val (.mov (.tmp 7))), none⟩,
         ⟨(some 44), (.call (.const (.func 10 [] [])) [(.tmp 43)]), none⟩,
         ⟨(some 12), (.val (.mov (.tmp 44))), none⟩])
       (.seq
        (.region [⟨(some 45), (.val (.mov (.tmp 7))), none⟩,
          ⟨(some 46), (.call (.const (.func 11 [] [])) [(.tmp 45)]), none⟩])
        (.seq
         (.region [⟨(some 47), (.val (.mov (.tmp 7))), none⟩,
           ⟨(some 48), (.val (.mov (.tmp 1))), none⟩,
           ⟨(some 49), (.val (.mov (.tmp 7))), none⟩,
           ⟨(some 50), (.call (.const (.func 12 [] [])) [(.tmp 49)]), none⟩,
           ⟨(some 51), (.call (.const (.func 8 [] [])) [(.tmp 47), (.tmp 48), (.tmp 50)]), none⟩,
           ⟨(some 13), (.val (.mov (.tmp 51))), none⟩])
         (.seq
          (.block 0
           (.loop F3l0))
          (.seq
           (.seq
            (.region [⟨(some 60), (.val (.mov (.tmp 13))), none⟩,
              ⟨(some 61), (.val (.mov (.tmp 8))), none⟩,
              ⟨(some 62), (.val (.bin .add (.tmp 61) (.const (.int .i64 1)))), none⟩,
              ⟨(some 63), (.val (.bin .lss (.tmp 60) (.tmp 62))), none⟩,
              ⟨(some 64), (.val (.mov (.tmp 63))), none⟩,
              ⟨(some 65), (.val (.mov (.tmp 7))), (some (64, false))⟩,
              ⟨(some 66), (.call (.const (.func 13 [] [])) [(.tmp 65)]), (some (64, false))⟩,
              ⟨(some 67), (.val (.un .not (.tmp 66))), (some (64, false))⟩,
              ⟨(some 68), (.val (.pick (.tmp 64) (.const (.bool true)) (.tmp 67))), none⟩,
              ⟨(some 69), (.val (.mov (.tmp 68))), none⟩,
              ⟨(some 70), (.val (.mov (.tmp 7))), (some (69, false))⟩,
              ⟨(some 71), (.call (.const (.func 12 [] [])) [(.tmp 70)]), (some (69, false))⟩,
              ⟨(some 72), (.val (.mov (.tmp 8))), (some (69, false))⟩,
              ⟨(some 73), (.val (.eq true (.prim 1) (.tmp 71) (.tmp 72))), (some (69, false))⟩,
              ⟨(some 74), (.val (.pick (.tmp 69) (.const (.bool true)) (.tmp 73))), none⟩])
            (.cond (.tmp 74)
             (.seq
              (.region [⟨(some 6), (.val (.mov (.const (.bool false)))), none⟩])
              .ret)
             .skip))
           (.seq
            (.region [⟨(some 76), (.val (.mov (.tmp 7))), none⟩,
              ⟨(some 77), (.val (.mov (.tmp 2))), none⟩,
              ⟨(some 78), (.call (.const (.func 9 [] [])) [(.tmp 76), (.tmp 77)]), none⟩,
              ⟨(some 75), (.val (.mov (.tmp 78))), none⟩,
              ⟨(some 79), (.val (.extract (.tmp 75) 0)), none⟩,
              ⟨(some 80), (.val (.extract (.tmp 75) 1)), none⟩,
              ⟨(some 81), (.val (.extract (.tmp 75) 2)), none⟩,
              ⟨(some 14), (.val (.mov (.tmp 79))), none⟩,
              ⟨(some 15), (.val (.mov (.tmp 80))), none⟩,
              ⟨(some 16), (.val (.mov (.tmp 81))), none⟩])
            (.seq
             (.region [⟨(some 82), (.val (.mov (.tmp 7))), none⟩,
               ⟨(some 83), (.call (.const (.func 10 [] [])) [(.tmp 82)]), none⟩,
               ⟨(some 17), (.val (.mov (.tmp 83))), none⟩])
             (.seq
              (.region [⟨(some 84), (.val (.mov (.tmp 9))), none⟩,
                ⟨(some 85), (.val (.mov (.tmp 14))), none⟩,
                ⟨(some 86), (.val (.eq false (.prim 1) (.tmp 84) (.tmp 85))), none⟩,
                ⟨(some 87), (.val (.mov (.tmp 86))), none⟩,
                ⟨(some 88), (.val (.mov (.tmp 10))), (some (87, true))⟩,
                ⟨(some 89), (.val (.mov (.tmp 15))), (some (87, true))⟩,
                ⟨(some 90), (.val (.eq false (.prim 1) (.tmp 88) (.tmp 89))), (some (87, true))⟩,
                ⟨(some 91), (.val (.pick (.tmp 87) (.tmp 90) (.const (.bool false)))), none⟩,
                ⟨(some 92), (.val (.mov (.tmp 91))), none⟩,
                ⟨(some 93), (.val (.mov (.tmp 11))), (some (92, true))⟩,
                ⟨(some 94), (.val (.mov (.tmp 16))), (some (92, true))⟩,
                ⟨(some 95), (.val (.eq false (.prim 0) (.tmp 93) (.tmp 94))), (some (92, true))⟩,
                ⟨(some 96), (.val (.pick (.tmp 92) (.tmp 95) (.const (.bool false)))), none⟩,
                ⟨(some 97), (.val (.mov (.tmp 96))), none⟩,
                ⟨(some 98), (.val (.mov (.tmp 17))), (some (97, true))⟩,
                ⟨(some 99), (.val (.len (.tmp 98))), (some (97, true))⟩,
                ⟨(some 100), (.val (.mov (.tmp 12))), (some (97, true))⟩,
                ⟨(some 101), (.val (.len (.tmp 100))), (some (97, true))⟩,
                ⟨(some 102), (.val (.bin .geq (.tmp 99) (.tmp 101))), (some (97, true))⟩,
                ⟨(some 103), (.val (.pick (.tmp 97) (.tmp 102) (.const (.bool false)))), none⟩,
                ⟨(some 104), (.val (.mov (.tmp 103))), none⟩,
                ⟨(some 105), (.val (.mov (.tmp 17))), (some (104, true))⟩,
                ⟨(some 106), (.val (.mov (.tmp 12))), (some (104, true))⟩,
                ⟨(some 107), (.val (.len (.tmp 106))), (some (104, true))⟩,
                ⟨(some 108), (.val (.slsl 1 (.tmp 105) none (some (.tmp 107)) none)), (some (104, true))⟩,
                ⟨(some 109), (.val (.mov (.tmp 12))), (some (104, true))⟩,
                ⟨(some 110), (.call (.const (.func 14 [] [])) [(.tmp 108), (.tmp 109)]), (some (104, true))⟩,
                ⟨(some 111), (.val (.pick (.tmp 104) (.tmp 110) (.const (.bool false)))), none⟩,
                ⟨(some 112), (.val (.mov (.tmp 111))), none⟩,
                ⟨(some 113), (.call (.const (.func 6 [] [])) []), (some (112, true))⟩,
                ⟨(some 114), (.val (.pick (.tmp 112) (.tmp 113) (.const (.bool false)))), none⟩,
                ⟨(some 6), (.val (.mov (.tmp 114))), none⟩])
              .ret))))))))))))),
 [.tmp 6]⟩
theorem ok3 : cFun Try.prog G Try.f3 = some F3 := by kernel_rfl

/- balustrade/balustradelaw10.ScopeNone -/
def F4 : IFun :=
 ⟨110,
 (.seq
  (.region [⟨(some 4), (.val (.mov (.const (.bool false)))), none⟩])
  (.seq
   (.region [⟨(some 5), (.val (.mov (.const .nilptr))), none⟩])
   (.seq
    (.region [⟨(some 17), (.val (.build [.nilmap, .nilslice, .nilslice, (.int .i64 0)] [])), none⟩,
      ⟨(some 18), (.val (.box 37 (.tmp 17))), none⟩,
      ⟨(some 6), (.val (.mov (.tmp 18))), none⟩])
    (.seq
     (.region [⟨(some 19), (.val (.mov (.tmp 5))), none⟩,
       ⟨(some 20), (.call (.const (.func 11 [] [])) [(.tmp 19)]), none⟩])
     (.seq
      (.region [⟨(some 21), (.val (.mov (.tmp 6))), none⟩,
        ⟨(some 22), (.call (.const (.func 11 [] [])) [(.tmp 21)]), none⟩])
      (.seq
       (.region [⟨(some 24), (.val (.mov (.tmp 5))), none⟩,
         ⟨(some 25), (.val (.mov (.tmp 0))), none⟩,
         ⟨(some 26), (.val (.mov (.tmp 1))), none⟩,
         ⟨(some 27), (.call (.const (.func 15 [] [])) [(.tmp 24), (.tmp 25), (.tmp 26)]), none⟩,
         ⟨(some 23), (.val (.mov (.tmp 27))), none⟩,
         ⟨(some 28), (.val (.extract (.tmp 23) 0)), none⟩,
         ⟨(some 29), (.val (.extract (.tmp 23) 1)), none⟩,
         ⟨(some 7), (.val (.mov (.tmp 28))), none⟩,
         ⟨(some 8), (.val (.mov (.tmp 29))), none⟩])
       (.seq
        (.region [⟨(some 31), (.val (.mov (.tmp 6))), none⟩,
          ⟨(some 32), (.val (.mov (.tmp 0))), none⟩,
          ⟨(some 33), (.val (.mov (.tmp 1))), none⟩,
          ⟨(some 34), (.call (.const (.func 15 [] [])) [(.tmp 31), (.tmp 32), (.tmp 33)]), none⟩,
          ⟨(some 30), (.val (.mov (.tmp 34))), none⟩,
          ⟨(some 35), (.val (.extract (.tmp 30) 0)), none⟩,
          ⟨(some 36), (.val (.extract (.tmp 30) 1)), none⟩,
          ⟨(some 9), (.val (.mov (.tmp 35))), none⟩,
          ⟨(some 10), (.val (.mov (.tmp 36))), none⟩])
        (.seq
         (.region [⟨(some 38), (.val (.mov (.tmp 5))), none⟩,
           ⟨(some 39), (.val (.mov (.tmp 0))), none⟩,
           ⟨(some 40), (.call (.const (.func 9 [] [])) [(.tmp 38), (.tmp 39)]), none⟩,
           ⟨(some 37), (.val (.mov (.tmp 40))), none⟩,
           ⟨(some 41), (.val (.extract (.tmp 37) 0)), none⟩,
           ⟨(some 42), (.val (.extract (.tmp 37) 1)), none⟩,
           ⟨(some 43), (.val (.extract (.tmp 37) 2)), none⟩,
           ⟨(some 11), (.val (.mov (.tmp 41))), none⟩,
           ⟨(some 12), (.val (.mov (.tmp 42))), none⟩,
           ⟨(some 13), (.val (.mov (.tmp 43))), none⟩])
         (.seq
          (.region [⟨(some 45), (.val (.mov (.tmp 6))), none⟩,
            ⟨(some 46), (.val (.mov (.tmp 0))), none⟩,
            ⟨(some 47), (.call (.const (.func 9 [] [])) [(.tmp 45), (.tmp 46)]), none⟩,
            ⟨(some 44), (.val (.mov (.tmp 47))), none⟩,
            ⟨(some 48), (.val (.extract (.tmp 44) 0)), none⟩,
            ⟨(some 49), (.val (.extract (.tmp 44) 1)), none⟩,
            ⟨(some 50), (.val (.extract (.tmp 44) 2)), none⟩,
            ⟨(some 14), (.val (.mov (.tmp 48))), none⟩,
            ⟨(some 15), (.val (.mov (.tmp 49))), none⟩,
            ⟨(some 16), (.val (.mov (.tmp 50))), none⟩])
          (.seq
           (.region [⟨(some 51), (.val (.mov (.tmp 8))), none⟩,
             ⟨(some 52), (.val (.un .not (.tmp 51))), none⟩,
             ⟨(some 53), (.val (.mov (.tmp 52))), none⟩,
             ⟨(some 54), (.val (.mov (.tmp 10))), (some (53, true))⟩,
             ⟨(some 55), (.val (.un .not (.tmp 54))), (some (53, true))⟩,
             ⟨(some 56), (.val (.pick (.tmp 53) (.tmp 55) (.const (.bool false)))), none⟩,
             ⟨(some 57), (.val (.mov (.tmp 56))), none⟩,
             ⟨(some 58), (.val (.mov (.tmp 13))), (some (57, true))⟩,
             ⟨(some 59), (.val (.un .not (.tmp 58))), (some (57, true))⟩,
             ⟨(some 60), (.val (.pick (.tmp 57) (.tmp 59) (.const (.bool false)))), none⟩,
             ⟨(some 61), (.val (.mov (.tmp 60))), none⟩,
             ⟨(some 62), (.val (.mov (.tmp 16))), (some (61, true))⟩,
             ⟨(some 63), (.val (.un .not (.tmp 62))), (some (61, true))⟩,
             ⟨(some 64), (.val (.pick (.tmp 61) (.tmp 63) (.const (.bool false)))), none⟩,
             ⟨(some 65), (.val (.mov (.tmp 64))), none⟩,
             ⟨(some 66), (.val (.mov (.tmp 7))), (some (65, true))⟩,
             ⟨(some 67), (.val (.mov (.tmp 9))), (some (65, true))⟩,
             ⟨(some 68), (.val (.bin .add (.tmp 66) (.tmp 67))), (some (65, true))⟩,
             ⟨(some 69), (.val (.mov (.tmp 11))), (some (65, true))⟩,
             ⟨(some 70), (.val (.bin .add (.tmp 68) (.tmp 69))), (some (65, true))⟩,
             ⟨(some 71), (.val (.mov (.tmp 12))), (some (65, true))⟩,
             ⟨(some 72), (.val (.bin .add (.tmp 70) (.tmp 71))), (some (65, true))⟩,
             ⟨(some 73), (.val (.mov (.tmp 14))), (some (65, true))⟩,
             ⟨(some 74), (.val (.bin .add (.tmp 72) (.tmp 73))), (some (65, true))⟩,
             ⟨(some 75), (.val (.mov (.tmp 15))), (some (65, true))⟩,
             ⟨(some 76), (.val (.bin .add (.tmp 74) (.tmp 75))), (some (65, true))⟩,
             ⟨(some 77), (.val (.eq false (.prim 1) (.tmp 76) (.const (.int .i64 0)))), (some (65, true))⟩,
             ⟨(some 78), (.val (.pick (.tmp 65) (.tmp 77) (.const (.bool false)))), none⟩,
             ⟨(some 79), (.val (.mov (.tmp 78))), none⟩,
             ⟨(some 80), (.val (.mov (.tmp 5))), (some (79, true))⟩,
             ⟨(some 81), (.call (.const (.func 13 [] [])) [(.tmp 80)]), (some (79, true))⟩,
             ⟨(some 82), (.val (.un .not (.tmp 81))), (some (79, true))⟩,
             ⟨(some 83), (.val (.pick (.tmp 79) (.tmp 82) (.const (.bool false)))), none⟩,
             ⟨(some 84), (.val (.mov (.tmp 83))), none⟩,
             ⟨(some 85), (.val (.mov (.tmp 6))), (some (84, true))⟩,
             ⟨(some 86), (.call (.const (.func 13 [] [])) [(.tmp 85)]), (some (84, true))⟩,
             ⟨(some 87), (.val (.un .not (.tmp 86))), (some (84, true))⟩,
             ⟨(some 88), (.val (.pick (.tmp 84) (.tmp 87) (.const (.bool false)))), none⟩,
             ⟨(some 89), (.val (.mov (.tmp 88))), none⟩,
             ⟨(some 90), (.val (.mov (.tmp 5))), (some (89, true))⟩,
             ⟨(some 91), (.call (.const (.func 12 [] [])) [(.tmp 90)]), (some (89, true))⟩,
             ⟨(some 92), (.val (.mov (.tmp 6))), (some (89, true))⟩,
             ⟨(some 93), (.call (.const (.func 12 [] [])) [(.tmp 92)]), (some (89, true))⟩,
             ⟨(some 94), (.val (.bin .add (.tmp 91) (.tmp 93))), (some (89, true))⟩,
             ⟨(some 95), (.val (.eq false (.prim 1) (.tmp 94) (.const (.int .i64 0)))), (some (89, true))⟩,
             ⟨(some 96), (.val (.pick (.tmp 89) (.tmp 95) (.const (.bool false)))), none⟩,
             ⟨(some 97), (.val (.mov (.tmp 96))), none⟩,
             ⟨(some 98), (.val (.mov (.tmp 5))), (some (97, true))⟩,
             ⟨(some 99), (.call (.const (.func 10 [] [])) [(.tmp 98)]), (some (97, true))⟩,
             ⟨(some 100), (.val (.len (.tmp 99))), (some (97, true))⟩,
             ⟨(some 101), (.val (.mov (.tmp 6))), (some (97, true))⟩,
             ⟨(some 102), (.call (.const (.func 10 [] [])) [(.tmp 101)]), (some (97, true))⟩,
             ⟨(some 103), (.val (.len (.tmp 102))), (some (97, true))⟩,
             ⟨(some 104), (.val (.bin .add (.tmp 100) (.tmp 103))), (some (97, true))⟩,
             ⟨(some 105), (.val (.eq false (.prim 1) (.tmp 104) (.const (.int .i64 0)))), (some (97, true))⟩,
             ⟨(some 106), (.val (.pick (.tmp 97) (.tmp 105) (.const (.bool false)))), none⟩,
             ⟨(some 107), (.val (.mov (.tmp 106))), none⟩,
             ⟨(some 108), (.call (.const (.func 6 [] [])) []), (some (107, true))⟩,
             ⟨(some 109), (.val (.pick (.tmp 107) (.tmp 108) (.const (.bool false)))), none⟩,
             ⟨(some 4), (.val (.mov (.tmp 109))), none⟩])
           .ret)))))))))),
 [.tmp 4]⟩
theorem ok4 : cFun Try.prog G Try.f4 = some F4 := by kernel_rfl

/- balustrade/balustradelaw10.ScopeTells -/
def F5l0 : ICode :=
 (.seq
  (.seq
   (.region [⟨(some 22), (.val (.mov (.tmp 5))), none⟩,
     ⟨(some 23), (.val (.mov (.tmp 0))), none⟩,
     ⟨(some 24), (.val (.len (.tmp 23))), none⟩,
     ⟨(some 25), (.val (.bin .lss (.tmp 22) (.tmp 24))), none⟩])
   (.cond (.tmp 25)
    .skip
    (.exit 0)))
  (.seq
   (.block 1
    (.seq
     (.region [⟨(some 28), (.val (.mov (.tmp 0))), none⟩,
       ⟨(some 29), (.val (.mov (.tmp 5))), none⟩,
       ⟨(some 30), (.val (.iaddr 3 (.tmp 28) (.tmp 29))), none⟩,
       ⟨(some 31), (.val (.load (some 3) (.tmp 30))), none⟩,
       ⟨(some 6), (.val (.alloc 46 [(.int .i64 0), (.str []), (.int .i64 0)])), none⟩,
       ⟨none, (.val (.store 3 (.tmp 6) (.tmp 31))), none⟩])
     (.seq
      (.seq
       (.region [⟨(some 32), (.val (.faddr 1 (.tmp 6))), none⟩,
         ⟨(some 33), (.val (.load none (.tmp 32))), none⟩,
         ⟨(some 34), (.val (.lenstr (.tmp 33))), none⟩,
         ⟨(some 35), (.val (.bin .gtr (.tmp 34) (.const (.int .i64 40)))), none⟩])
       (.cond (.tmp 35)
        (.seq
         (.region [⟨(some 36), (.call (.const (.func 6 [] [])) []), none⟩,
           ⟨(some 2), (.val (.mov (.tmp 36))), none⟩])
         .ret)
        .skip))
      (.seq
       (.seq
        (.region [⟨(some 37), (.val (.faddr 0 (.tmp 6))), none⟩,
          ⟨(some 38), (.val (.load none (.tmp 37))), none⟩])
        (.block 2
         (.seq
          (.region [⟨(some 40), (.val (.eq false (.prim 1) (.tmp 38) (.const (.int .i64 0)))), none⟩,
            ⟨(some 39), (.val (.mov (.tmp 40))), none⟩])
          (.cond (.tmp 39)
           (.seq
            (.region [⟨(some 41), (.val (.mov (.tmp 3))), none⟩,
              ⟨(some 42), (.call (.const (.func 11 [] [])) [(.tmp 41)]), none⟩])
            (.region [⟨(some 43), (.val (.faddr 2 (.tmp 4))), none⟩,
              ⟨(some 44), (.val (.load none (.tmp 43))), none⟩,
              ⟨(some 45), (.val (.bin .add (.tmp 44) (.const (.int .i64 1)))), none⟩,
              ⟨(some 46), (.val (.faddr 2 (.tmp 4))), none⟩,
              ⟨none, (.val (.store 1 (.tmp 46) (.tmp 45))), none⟩]))
           (.seq
            (.region [⟨(some 48), (.val (.eq false (.prim 1) (.tmp 38) (.const (.int .i64 1)))), none⟩,
              ⟨(some 47), (.val (.mov (.tmp 48))), none⟩])
            (.cond (.tmp 47)
             (.seq
              (.region [⟨(some 49), (.val (.faddr 2 (.tmp 4))), none⟩,
                ⟨(some 50), (.val (.load none (.tmp 49))), none⟩,
                ⟨(some 51), (.val (.bin .gtr (.tmp 50) (.const (.int .i64 1)))), none⟩,
                ⟨(some 7), (.val (.mov (.tmp 51))), none⟩])
              (.seq
               (.seq
                (.region [⟨(some 52), (.val (.mov (.tmp 7))), none⟩])
                (.cond (.tmp 52)
                 (.region [⟨(some 53), (.val (.load (some 3) (.tmp 4))), none⟩,
                   ⟨(some 54), (.call (.const (.func 17 [] [])) [(.tmp 53)]), none⟩,
                   ⟨none, (.val (.store 3 (.tmp 4) (.tmp 54))), none⟩])
                 .skip))
               (.seq
                (.region [⟨(some 55), (.val (.mov (.tmp 3))), none⟩,
                  ⟨(some 56), (.call (.const (.func 13 [] [])) [(.tmp 55)]), none⟩,
                  ⟨(some 57), (.val (.mov (.tmp 7))), none⟩,
                  ⟨(some 58), (.val (.eq true (.prim 0) (.tmp 56) (.tmp 57))), none⟩])
                (.cond (.tmp 58)
                 (.seq
                  (.region [⟨(some 2), (.val (.mov (.const (.bool false)))), none⟩])
                  .ret)
                 .skip))))
             (.seq
              (.region [⟨(some 60), (.val (.eq false (.prim 1) (.tmp 38) (.const (.int .i64 2)))), none⟩,
                ⟨(some 59), (.val (.mov (.tmp 60))), none⟩])
              (.cond (.tmp 59)
               (.seq
                (.region [⟨(some 62), (.val (.load (some 3) (.tmp 4))), none⟩,
                  ⟨(some 63), (.val (.faddr 1 (.tmp 6))), none⟩,
                  ⟨(some 64), (.val (.load none (.tmp 63))), none⟩,
                  ⟨(some 65), (.val (.faddr 2 (.tmp 6))), none⟩,
                  ⟨(some 66), (.val (.load none (.tmp 65))), none⟩,
                  ⟨(some 67), (.call (.const (.func 18 [] [])) [(.tmp 62), (.tmp 64), (.tmp 66)]), none⟩,
                  ⟨(some 61), (.val (.mov (.tmp 67))), none⟩,
                  ⟨(some 68), (.val (.extract (.tmp 61) 0)), none⟩,
                  ⟨(some 69), (.val (.extract (.tmp 61) 1)), none⟩,
                  ⟨(some 8), (.val (.alloc 43 [.nilslice, .nilslice, (.int .i64 0)])), none⟩,
                  ⟨none, (.val (.store 3 (.tmp 8) (.tmp 68))), none⟩,
                  ⟨(some 9), (.val (.mov (.tmp 69))), none⟩])
                (.seq
                 (.region [⟨(some 71), (.val (.mov (.tmp 3))), none⟩,
                   ⟨(some 72), (.val (.faddr 1 (.tmp 6))), none⟩,
                   ⟨(some 73), (.val (.load none (.tmp 72))), none⟩,
                   ⟨(some 74), (.val (.faddr 2 (.tmp 6))), none⟩,
                   ⟨(some 75), (.val (.load none (.tmp 74))), none⟩,
                   ⟨(some 76), (.call (.const (.func 15 [] [])) [(.tmp 71), (.tmp 73), (.tmp 75)]), none⟩,
                   ⟨(some 70), (.val (.mov (.tmp 76))), none⟩,
                   ⟨(some 77), (.val (.extract (.tmp 70) 0)), none⟩,
                   ⟨(some 78), (.val (.extract (.tmp 70) 1)), none⟩,
                   ⟨(some 10), (.val (.mov (.tmp 77))), none⟩,
                   ⟨(some 11), (.val (.mov (.tmp 78))), none⟩])
                 (.seq
                  (.seq
                   (.region [⟨(some 79), (.val (.mov (.tmp 11))), none⟩,
                     ⟨(some 80), (.val (.mov (.tmp 9))), none⟩,
                     ⟨(some 81), (.val (.eq true (.prim 0) (.tmp 79) (.tmp 80))), none⟩,
                     ⟨(some 82), (.val (.mov (.tmp 81))), none⟩,
                     ⟨(some 83), (.val (.mov (.tmp 9))), (some (82, false))⟩,
                     ⟨(some 84), (.val (.mov (.tmp 83))), (some (82, false))⟩,
                     ⟨(some 85), (.val (.mov (.tmp 10))), (some (84, true))⟩,
                     ⟨(some 86), (.val (.faddr 1 (.tmp 4))), (some (84, true))⟩,
                     ⟨(some 87), (.val (.load none (.tmp 86))), (some (84, true))⟩,
                     ⟨(some 88), (.val (.len (.tmp 87))), (some (84, true))⟩,
                     ⟨(some 89), (.val (.eq true (.prim 1) (.tmp 85) (.tmp 88))), (some (84, true))⟩,
                     ⟨(some 90), (.val (.pick (.tmp 84) (.tmp 89) (.const (.bool false)))), (some (82, false))⟩,
                     ⟨(some 91), (.val (.pick (.tmp 82) (.const (.bool true)) (.tmp 90))), none⟩,
                     ⟨(some 92), (.val (.mov (.tmp 91))), none⟩,
                     ⟨(some 93), (.val (.mov (.tmp 9))), (some (92, false))⟩,
                     ⟨(some 94), (.val (.un .not (.tmp 93))), (some (92, false))⟩,
                     ⟨(some 95), (.val (.mov (.tmp 94))), (some (92, false))⟩,
                     ⟨(some 96), (.val (.mov (.tmp 10))), (some (95, true))⟩,
                     ⟨(some 97), (.val (.eq true (.prim 1) (.tmp 96) (.const (.int .i64 0)))), (some (95, true))⟩,
                     ⟨(some 98), (.val (.pick (.tmp 95) (.tmp 97) (.const (.bool false)))), (some (92, false))⟩,
                     ⟨(some 99), (.val (.pick (.tmp 92) (.const (.bool true)) (.tmp 98))), none⟩])
                   (.cond (.tmp 99)
                    (.seq
                     (.region [⟨(some 2), (.val (.mov (.const (.bool false)))), none⟩])
                     .ret)
                    .skip))
                  (.region [⟨(some 100), (.val (.load (some 3) (.tmp 8))), none⟩,
                    ⟨none, (.val (.store 3 (.tmp 4) (.tmp 100))), none⟩]))))
               .skip))))))))
       (.seq
        (.region [⟨(some 101), (.val (.load (some 3) (.tmp 4))), none⟩,
          ⟨(some 102), (.val (.faddr 1 (.tmp 6))), none⟩,
          ⟨(some 103), (.val (.load none (.tmp 102))), none⟩,
          ⟨(some 104), (.call (.const (.func 19 [] [])) [(.tmp 101), (.tmp 103)]), none⟩,
          ⟨(some 12), (.val (.mov (.tmp 104))), none⟩])
        (.seq
         (.region [⟨(some 106), (.val (.mov (.tmp 3))), none⟩,
           ⟨(some 107), (.val (.faddr 1 (.tmp 6))), none⟩,
           ⟨(some 108), (.val (.load none (.tmp 107))), none⟩,
           ⟨(some 109), (.call (.const (.func 9 [] [])) [(.tmp 106), (.tmp 108)]), none⟩,
           ⟨(some 105), (.val (.mov (.tmp 109))), none⟩,
           ⟨(some 110), (.val (.extract (.tmp 105) 0)), none⟩,
           ⟨(some 111), (.val (.extract (.tmp 105) 1)), none⟩,
           ⟨(some 112), (.val (.extract (.tmp 105) 2)), none⟩,
           ⟨(some 13), (.val (.mov (.tmp 110))), none⟩,
           ⟨(some 14), (.val (.mov (.tmp 111))), none⟩,
           ⟨(some 15), (.val (.mov (.tmp 112))), none⟩])
         (.seq
          (.draw [⟨(some 113), (.val (.mov (.tmp 15))), none⟩,
            ⟨(some 114), (.val (.mov (.tmp 12))), none⟩,
            ⟨(some 115), (.val (.bin .geq (.tmp 114) (.const (.int .i64 0)))), none⟩,
            ⟨(some 116), (.val (.eq true (.prim 0) (.tmp 113) (.tmp 115))), none⟩,
            ⟨(some 117), (.val (.mov (.tmp 116))), none⟩,
            ⟨(some 118), (.val (.mov (.tmp 15))), (some (117, false))⟩,
            ⟨(some 119), (.val (.mov (.tmp 118))), (some (117, false))⟩,
            ⟨(some 120), (.val (.mov (.tmp 13))), (some (119, true))⟩,
            ⟨(some 121), (.val (.faddr 0 (.tmp 4))), (some (119, true))⟩,
            ⟨(some 122), (.val (.load none (.tmp 121))), (some (119, true))⟩,
            ⟨(some 123), (.val (.mov (.tmp 12))), (some (119, true))⟩,
            ⟨(some 124), (.val (.iaddr 4 (.tmp 122) (.tmp 123))), (some (119, true))⟩,
            ⟨(some 125), (.val (.faddr 2 (.tmp 124))), (some (119, true))⟩,
            ⟨(some 126), (.val (.load none (.tmp 125))), (some (119, true))⟩,
            ⟨(some 127), (.val (.eq true (.prim 1) (.tmp 120) (.tmp 126))), (some (119, true))⟩,
            ⟨(some 128), (.val (.mov (.tmp 127))), (some (119, true))⟩,
            ⟨(some 129), (.val (.mov (.tmp 14))), (some (128, false))⟩,
            ⟨(some 130), (.val (.faddr 0 (.tmp 4))), (some (128, false))⟩,
            ⟨(some 131), (.val (.load none (.tmp 130))), (some (128, false))⟩,
            ⟨(some 132), (.val (.mov (.tmp 12))), (some (128, false))⟩,
            ⟨(some 133), (.val (.iaddr 4 (.tmp 131) (.tmp 132))), (some (128, false))⟩,
            ⟨(some 134), (.val (.faddr 3 (.tmp 133))), (some (128, false))⟩,
            ⟨(some 135), (.val (.load none (.tmp 134))), (some (128, false))⟩,
            ⟨(some 136), (.val (.eq true (.prim 1) (.tmp 129) (.tmp 135))), (some (128, false))⟩,
            ⟨(some 137), (.val (.pick (.tmp 128) (.const (.bool true)) (.tmp 136))), (some (119, true))⟩,
            ⟨(some 138), (.val (.pick (.tmp 119) (.tmp 137) (.const (.bool false)))), (some (117, false))⟩,
            ⟨(some 139), (.val (.pick (.tmp 117) (.const (.bool true)) (.tmp 138))), none⟩,
            ⟨(some 140), (.val (.mov (.tmp 139))), none⟩,
            ⟨(some 141), (.val (.mov (.tmp 15))), (some (140, false))⟩,
            ⟨(some 142), (.val (.un .not (.tmp 141))), (some (140, false))⟩,
            ⟨(some 143), (.val (.mov (.tmp 142))), (some (140, false))⟩,
            ⟨(some 144), (.val (.mov (.tmp 13))), (some (143, true))⟩,
            ⟨(some 145), (.val (.mov (.tmp 14))), (some (143, true))⟩,
            ⟨(some 146), (.val (.bin .add (.tmp 144) (.tmp 145))), (some (143, true))⟩,
            ⟨(some 147), (.val (.eq true (.prim 1) (.tmp 146) (.const (.int .i64 0)))), (some (143, true))⟩,
            ⟨(some 148), (.val (.pick (.tmp 143) (.tmp 147) (.const (.bool false)))), (some (140, false))⟩,
            ⟨(some 149), (.val (.pick (.tmp 140) (.const (.bool true)) (.tmp 148))), none⟩,
            ⟨(some 150), (.val (.mov (.tmp 149))), none⟩,
            ⟨(some 151), (.val (.mov (.tmp 3))), (some (150, false))⟩,
            ⟨(some 152), (.call (.const (.func 12 [] [])) [(.tmp 151)]), (some (150, false))⟩,
            ⟨(some 153), (.val (.faddr 2 (.tmp 4))), (some (150, false))⟩,
            ⟨(some 154), (.val (.load none (.tmp 153))), (some (150, false))⟩,
            ⟨(some 155), (.val (.eq true (.prim 1) (.tmp 152) (.tmp 154))), (some (150, false))⟩,
            ⟨(some 156), (.val (.pick (.tmp 150) (.const (.bool true)) (.tmp 155))), none⟩,
            ⟨(some 157), (.val (.mov (.tmp 156))), none⟩,
            ⟨(some 158), (.val (.mov (.tmp 3))), (some (157, false))⟩,
            ⟨(some 159), (.call (.const (.func 10 [] [])) [(.tmp 158)]), (some (157, false))⟩,
            ⟨(some 160), (.val (.faddr 1 (.tmp 4))), (some (157, false))⟩,
            ⟨(some 161), (.val (.load none (.tmp 160))), (some (157, false))⟩,
            ⟨(some 162), (.call (.const (.func 14 [] [])) [(.tmp 159), (.tmp 161)]), (some (157, false))⟩,
            ⟨(some 163), (.val (.un .not (.tmp 162))), (some (157, false))⟩,
            ⟨(some 164), (.val (.pick (.tmp 157) (.const (.bool true)) (.tmp 163))), none⟩] [(41, 39), (48, 46)])
          (.cond (.tmp 164)
           (.seq
            (.region [⟨(some 2), (.val (.mov (.const (.bool false)))), none⟩])
            .ret)
           .skip))))))))
   (.region [⟨(some 26), (.val (.mov (.tmp 5))), none⟩,
     ⟨(some 27), (.val (.bin .add (.tmp 26) (.const (.int .i64 1)))), none⟩,
     ⟨(some 5), (.val (.mov (.tmp 27))), none⟩])))
def F5 : IFun :=
 ⟨166,
 (.seq
  (.region [⟨(some 2), (.val (.mov (.const (.bool false)))), none⟩])
  (.seq
   (.seq
    (.region [⟨(some 16), (.val (.mov (.tmp 0))), none⟩,
      ⟨(some 17), (.val (.len (.tmp 16))), none⟩,
      ⟨(some 18), (.val (.bin .gtr (.tmp 17) (.const (.int .i64 60)))), none⟩])
    (.cond (.tmp 18)
     (.seq
      (.region [⟨(some 19), (.call (.const (.func 6 [] [])) []), none⟩,
        ⟨(some 2), (.val (.mov (.tmp 19))), none⟩])
      .ret)
     .skip))
   (.seq
    (.region [⟨(some 20), (.call (.const (.func 7 [] [])) []), none⟩,
      ⟨(some 21), (.call (.const (.func 16 [] [])) []), none⟩,
      ⟨(some 4), (.val (.alloc 43 [.nilslice, .nilslice, (.int .i64 0)])), none⟩,
      ⟨(some 3), (.val (.mov (.tmp 20))), none⟩,
      ⟨none, (.val (.store 3 (.tmp 4) (.tmp 21))), none⟩])
    (.seq
     (.seq
      (.region [⟨(some 5), (.val (.mov (.const (.int .i64 0)))), none⟩])
      (.block 0
       (.loop F5l0)))
     (.seq
      (.region [⟨(some 165), (.call (.const (.func 6 [] [])) []), none⟩,
        ⟨(some 2), (.val (.mov (.tmp 165))), none⟩])
      .ret))))),
 [.tmp 2]⟩
theorem ok5 : cFun Try.prog G Try.f5 = some F5 := by kernel_rfl

/- balustrade/balustradelaw10.works -/
def F6 : IFun :=
 ⟨82,
 (.seq
  (.region [⟨(some 0), (.val (.mov (.const (.bool false)))), none⟩])
  (.seq
   (.region [⟨(some 13), (.call (.const (.func 7 [] [])) []), none⟩,
     ⟨(some 1), (.val (.mov (.tmp 13))), none⟩])
   (.seq
    (.region [⟨(some 15), (.val (.mov (.tmp 1))), none⟩,
      ⟨(some 16), (.call (.const (.func 15 [] [])) [(.tmp 15), (.const (.str [97])), (.const (.int .i64 1))]), none⟩,
      ⟨(some 14), (.val (.mov (.tmp 16))), none⟩,
      ⟨(some 17), (.val (.extract (.tmp 14) 0)), none⟩,
      ⟨(some 18), (.val (.extract (.tmp 14) 1)), none⟩,
      ⟨(some 2), (.val (.mov (.tmp 17))), none⟩,
      ⟨(some 3), (.val (.mov (.tmp 18))), none⟩])
    (.seq
     (.region [⟨(some 19), (.val (.mov (.tmp 1))), none⟩,
       ⟨(some 20), (.call (.const (.func 11 [] [])) [(.tmp 19)]), none⟩])
     (.seq
      (.region [⟨(some 22), (.val (.mov (.tmp 1))), none⟩,
        ⟨(some 23), (.call (.const (.func 15 [] [])) [(.tmp 22), (.const (.str [97])), (.const (.int .i64 3))]), none⟩,
        ⟨(some 21), (.val (.mov (.tmp 23))), none⟩,
        ⟨(some 24), (.val (.extract (.tmp 21) 0)), none⟩,
        ⟨(some 25), (.val (.extract (.tmp 21) 1)), none⟩,
        ⟨(some 4), (.val (.mov (.tmp 24))), none⟩,
        ⟨(some 5), (.val (.mov (.tmp 25))), none⟩])
      (.seq
       (.region [⟨(some 27), (.val (.mov (.tmp 1))), none⟩,
         ⟨(some 28), (.call (.const (.func 9 [] [])) [(.tmp 27), (.const (.str [97]))]), none⟩,
         ⟨(some 26), (.val (.mov (.tmp 28))), none⟩,
         ⟨(some 29), (.val (.extract (.tmp 26) 0)), none⟩,
         ⟨(some 30), (.val (.extract (.tmp 26) 1)), none⟩,
         ⟨(some 31), (.val (.extract (.tmp 26) 2)), none⟩,
         ⟨(some 6), (.val (.mov (.tmp 29))), none⟩,
         ⟨(some 7), (.val (.mov (.tmp 30))), none⟩,
         ⟨(some 8), (.val (.mov (.tmp 31))), none⟩])
       (.seq
        (.region [⟨(some 32), (.val (.mov (.tmp 1))), none⟩,
          ⟨(some 33), (.call (.const (.func 13 [] [])) [(.tmp 32)]), none⟩,
          ⟨(some 9), (.val (.mov (.tmp 33))), none⟩])
        (.seq
         (.region [⟨(some 35), (.val (.mov (.tmp 1))), none⟩,
           ⟨(some 36), (.call (.const (.func 9 [] [])) [(.tmp 35), (.const (.str [97]))]), none⟩,
           ⟨(some 34), (.val (.mov (.tmp 36))), none⟩,
           ⟨(some 37), (.val (.extract (.tmp 34) 0)), none⟩,
           ⟨(some 38), (.val (.extract (.tmp 34) 1)), none⟩,
           ⟨(some 39), (.val (.extract (.tmp 34) 2)), none⟩,
           ⟨(some 10), (.val (.mov (.tmp 37))), none⟩,
           ⟨(some 11), (.val (.mov (.tmp 38))), none⟩,
           ⟨(some 12), (.val (.mov (.tmp 39))), none⟩])
         (.seq
          (.region [⟨(some 40), (.val (.mov (.tmp 3))), none⟩,
            ⟨(some 41), (.val (.mov (.tmp 40))), none⟩,
            ⟨(some 42), (.val (.mov (.tmp 5))), (some (41, true))⟩,
            ⟨(some 43), (.val (.pick (.tmp 41) (.tmp 42) (.const (.bool false)))), none⟩,
            ⟨(some 44), (.val (.mov (.tmp 43))), none⟩,
            ⟨(some 45), (.val (.mov (.tmp 8))), (some (44, true))⟩,
            ⟨(some 46), (.val (.pick (.tmp 44) (.tmp 45) (.const (.bool false)))), none⟩,
            ⟨(some 47), (.val (.mov (.tmp 46))), none⟩,
            ⟨(some 48), (.val (.mov (.tmp 9))), (some (47, true))⟩,
            ⟨(some 49), (.val (.pick (.tmp 47) (.tmp 48) (.const (.bool false)))), none⟩,
            ⟨(some 50), (.val (.mov (.tmp 49))), none⟩,
            ⟨(some 51), (.val (.mov (.tmp 12))), (some (50, true))⟩,
            ⟨(some 52), (.val (.pick (.tmp 50) (.tmp 51) (.const (.bool false)))), none⟩,
            ⟨(some 53), (.val (.mov (.tmp 52))), none⟩,
            ⟨(some 54), (.val (.mov (.tmp 2))), (some (53, true))⟩,
            ⟨(some 55), (.val (.eq false (.prim 1) (.tmp 54) (.const (.int .i64 0)))), (some (53, true))⟩,
            ⟨(some 56), (.val (.pick (.tmp 53) (.tmp 55) (.const (.bool false)))), none⟩,
            ⟨(some 57), (.val (.mov (.tmp 56))), none⟩,
            ⟨(some 58), (.val (.mov (.tmp 4))), (some (57, true))⟩,
            ⟨(some 59), (.val (.eq false (.prim 1) (.tmp 58) (.const (.int .i64 1)))), (some (57, true))⟩,
            ⟨(some 60), (.val (.pick (.tmp 57) (.tmp 59) (.const (.bool false)))), none⟩,
            ⟨(some 61), (.val (.mov (.tmp 60))), none⟩,
            ⟨(some 62), (.val (.mov (.tmp 6))), (some (61, true))⟩,
            ⟨(some 63), (.val (.eq false (.prim 1) (.tmp 62) (.const (.int .i64 1)))), (some (61, true))⟩,
            ⟨(some 64), (.val (.pick (.tmp 61) (.tmp 63) (.const (.bool false)))), none⟩,
            ⟨(some 65), (.val (.mov (.tmp 64))), none⟩,
            ⟨(some 66), (.val (.mov (.tmp 7))), (some (65, true))⟩,
            ⟨(some 67), (.val (.eq false (.prim 1) (.tmp 66) (.const (.int .i64 3)))), (some (65, true))⟩,
            ⟨(some 68), (.val (.pick (.tmp 65) (.tmp 67) (.const (.bool false)))), none⟩,
            ⟨(some 69), (.val (.mov (.tmp 68))), none⟩,
            ⟨(some 70), (.val (.mov (.tmp 10))), (some (69, true))⟩,
            ⟨(some 71), (.val (.eq false (.prim 1) (.tmp 70) (.const (.int .i64 0)))), (some (69, true))⟩,
            ⟨(some 72), (.val (.pick (.tmp 69) (.tmp 71) (.const (.bool false)))), none⟩,
            ⟨(some 73), (.val (.mov (.tmp 72))), none⟩,
            ⟨(some 74), (.val (.mov (.tmp 11))), (some (73, true))⟩,
            ⟨(some 75), (.val (.eq false (.prim 1) (.tmp 74) (.const (.int .i64 1)))), (some (73, true))⟩,
            ⟨(some 76), (.val (.pick (.tmp 73) (.tmp 75) (.const (.bool false)))), none⟩,
            ⟨(some 77), (.val (.mov (.tmp 76))), none⟩,
            ⟨(some 78), (.val (.mov (.tmp 1))), (some (77, true))⟩,
            ⟨(some 79), (.call (.const (.func 13 [] [])) [(.tmp 78)]), (some (77, true))⟩,
            ⟨(some 80), (.val (.un .not (.tmp 79))), (some (77, true))⟩,
            ⟨(some 81), (.val (.pick (.tmp 77) (.tmp 80) (.const (.bool false)))), none⟩,
            ⟨(some 0), (.val (.mov (.tmp 81))), none⟩])
          .ret))))))))),
 [.tmp 0]⟩
theorem ok6 : cFun Try.prog G Try.f6 = some F6 := by kernel_rfl

/- balustrade/scope.New -/
def F7 : IFun :=
 ⟨4,
 (.seq
  (.region [⟨(some 0), (.val (.mov (.const .nilptr))), none⟩])
  (.seq
   (.region [⟨(some 1), (.val (.mkmap)), none⟩,
     ⟨(some 2), (.val (.build [.nilmap, .nilslice, .nilslice, (.int .i64 0)] [(0, 1, (.tmp 1)), (3, 1, (.const (.int .i64 1)))])), none⟩,
     ⟨(some 3), (.val (.box 37 (.tmp 2))), none⟩,
     ⟨(some 0), (.val (.mov (.tmp 3))), none⟩])
   .ret)),
 [.tmp 0]⟩
theorem ok7 : cFun Try.prog G Try.f7 = some F7 := by kernel_rfl

/- balustrade/balustradelaw10.play -/
def F8l0 : ICode :=
 (.seq
  (.seq
   (.region [⟨(some 8), (.val (.mov (.tmp 7))), none⟩,
     ⟨(some 9), (.val (.mov (.tmp 1))), none⟩,
     ⟨(some 10), (.val (.len (.tmp 9))), none⟩,
     ⟨(some 11), (.val (.bin .lss (.tmp 8) (.tmp 10))), none⟩])
   (.cond (.tmp 11)
    .skip
    (.exit 0)))
  (.seq
   (.block 1
    (.seq
     (.region [⟨(some 14), (.val (.mov (.tmp 1))), none⟩,
       ⟨(some 15), (.val (.mov (.tmp 7))), none⟩,
       ⟨(some 16), (.val (.iaddr 3 (.tmp 14) (.tmp 15))), none⟩,
       ⟨(some 17), (.val (.faddr 0 (.tmp 16))), none⟩,
       ⟨(some 18), (.val (.load none (.tmp 17))), none⟩])
     (.block 2
      (.seq
       (.region [⟨(some 20), (.val (.eq false (.prim 1) (.tmp 18) (.const (.int .i64 0)))), none⟩,
         ⟨(some 19), (.val (.mov (.tmp 20))), none⟩])
       (.cond (.tmp 19)
        (.region [⟨(some 21), (.val (.mov (.tmp 0))), none⟩,
          ⟨(some 22), (.call (.const (.func 11 [] [])) [(.tmp 21)]), none⟩])
        (.seq
         (.region [⟨(some 24), (.val (.eq false (.prim 1) (.tmp 18) (.const (.int .i64 1)))), none⟩,
           ⟨(some 23), (.val (.mov (.tmp 24))), none⟩])
         (.cond (.tmp 23)
          (.seq
           (.region [⟨(some 25), (.val (.mov (.tmp 0))), none⟩,
             ⟨(some 26), (.call (.const (.func 12 [] [])) [(.tmp 25)]), none⟩,
             ⟨(some 27), (.val (.mov (.tmp 2))), none⟩,
             ⟨(some 28), (.val (.bin .gtr (.tmp 26) (.tmp 27))), none⟩])
           (.cond (.tmp 28)
            (.region [⟨(some 29), (.val (.mov (.tmp 0))), none⟩,
              ⟨(some 30), (.call (.const (.func 13 [] [])) [(.tmp 29)]), none⟩])
            .skip))
          (.seq
           (.region [⟨(some 32), (.val (.eq false (.prim 1) (.tmp 18) (.const (.int .i64 2)))), none⟩,
             ⟨(some 31), (.val (.mov (.tmp 32))), none⟩])
           (.cond (.tmp 31)
            (.draw [⟨(some 33), (.val (.mov (.tmp 0))), none⟩,
              ⟨(some 34), (.val (.mov (.tmp 1))), none⟩,
              ⟨(some 35), (.val (.mov (.tmp 7))), none⟩,
              ⟨(some 36), (.val (.iaddr 3 (.tmp 34) (.tmp 35))), none⟩,
              ⟨(some 37), (.val (.faddr 1 (.tmp 36))), none⟩,
              ⟨(some 38), (.val (.load none (.tmp 37))), none⟩,
              ⟨(some 39), (.val (.mov (.tmp 1))), none⟩,
              ⟨(some 40), (.val (.mov (.tmp 7))), none⟩,
              ⟨(some 41), (.val (.iaddr 3 (.tmp 39) (.tmp 40))), none⟩,
              ⟨(some 42), (.val (.faddr 2 (.tmp 41))), none⟩,
              ⟨(some 43), (.val (.load none (.tmp 42))), none⟩,
              ⟨(some 44), (.call (.const (.func 15 [] [])) [(.tmp 33), (.tmp 38), (.tmp 43)]), none⟩] [])
            .skip)))))))))
   (.region [⟨(some 12), (.val (.mov (.tmp 7))), none⟩,
     ⟨(some 13), (.val (.bin .add (.tmp 12) (.const (.int .i64 1)))), none⟩,
     ⟨(some 7), (.val (.mov (.tmp 13))), none⟩])))
def F8 : IFun :=
 ⟨47,
 (.seq
  (.region [⟨(some 6), (.val (.mov (.const (.int .i64 0)))), none⟩])
  (.seq
   (.seq
    (.region [⟨(some 7), (.val (.mov (.const (.int .i64 0)))), none⟩])
    (.block 0
     (.loop F8l0)))
   (.seq
    (.region [⟨(some 45), (.val (.mov (.tmp 0))), none⟩,
      ⟨(some 46), (.call (.const (.func 12 [] [])) [(.tmp 45)]), none⟩,
      ⟨(some 6), (.val (.mov (.tmp 46))), none⟩])
    .ret))),
 [.tmp 6]⟩
theorem ok8 : cFun Try.prog G Try.f8 = some F8 := by kernel_rfl

/- (*balustrade/scope.Scopes).Find -/
def F9 : IFun :=
 ⟨20,
 (.seq
  (.region [⟨(some 4), (.val (.mov (.const (.int .i64 0)))), none⟩,
    ⟨(some 5), (.val (.mov (.const (.int .i64 0)))), none⟩,
    ⟨(some 6), (.val (.mov (.const (.bool false)))), none⟩])
  (.seq
   (.region [⟨(some 10), (.val (.mov (.tmp 0))), none⟩,
     ⟨(some 11), (.val (.mov (.tmp 1))), none⟩,
     ⟨(some 12), (.call (.const (.func 20 [] [])) [(.tmp 10), (.tmp 11)]), none⟩,
     ⟨(some 9), (.val (.mov (.tmp 12))), none⟩,
     ⟨(some 13), (.val (.extract (.tmp 9) 0)), none⟩,
     ⟨(some 14), (.val (.extract (.tmp 9) 1)), none⟩,
     ⟨(some 7), (.val (.alloc 55 [(.int .i64 0), (.int .i64 0), (.int .i64 0)])), none⟩,
     ⟨none, (.val (.store 3 (.tmp 7) (.tmp 13))), none⟩,
     ⟨(some 8), (.val (.mov (.tmp 14))), none⟩])
   (.seq
    (.draw [⟨(some 15), (.val (.faddr 0 (.tmp 7))), none⟩,
      ⟨(some 16), (.val (.load none (.tmp 15))), none⟩,
      ⟨(some 17), (.val (.faddr 1 (.tmp 7))), none⟩,
      ⟨(some 18), (.val (.load none (.tmp 17))), none⟩,
      ⟨(some 19), (.val (.mov (.tmp 8))), none⟩,
      ⟨(some 4), (.val (.mov (.tmp 16))), none⟩,
      ⟨(some 5), (.val (.mov (.tmp 18))), none⟩,
      ⟨(some 6), (.val (.mov (.tmp 19))), none⟩] [])
    .ret))),
 [.tmp 4, .tmp 5, .tmp 6]⟩
theorem ok9 : cFun Try.prog G Try.f9 = some F9 := by kernel_rfl

/- (*balustrade/scope.Scopes).Kinds -/
def F10 : IFun :=
 ⟨11,
 (.seq
  (.region [⟨(some 2), (.val (.mov (.const .nilslice))), none⟩])
  (.seq
   (.seq
    (.region [⟨(some 3), (.val (.mov (.tmp 0))), none⟩,
      ⟨(some 4), (.call (.const (.func 21 [] [])) [(.tmp 3)]), none⟩,
      ⟨(some 5), (.val (.un .not (.tmp 4))), none⟩])
    (.cond (.tmp 5)
     (.seq
      (.region [⟨(some 2), (.val (.mov (.const .nilslice))), none⟩])
      .ret)
     .skip))
   (.seq
    (.region [⟨(some 6), (.val (.mov (.tmp 0))), none⟩,
      ⟨(some 7), (.val (.nilck (.tmp 6))), none⟩,
      ⟨(some 8), (.val (.faddr 2 (.tmp 7))), none⟩,
      ⟨(some 9), (.val (.load none (.tmp 8))), none⟩,
      ⟨(some 10), (.val (.append 3 1 8 (.const .nilslice) (.tmp 9))), none⟩,
      ⟨(some 2), (.val (.mov (.tmp 10))), none⟩])
    .ret))),
 [.tmp 2]⟩
theorem ok10 : cFun Try.prog G Try.f10 = some F10 := by kernel_rfl

/- (*balustrade/scope.Scopes).Open -/
def F11 : IFun :=
 ⟨11,
 (.seq
  (.region [⟨(some 2), (.val (.mov (.tmp 0))), none⟩,
    ⟨(some 3), (.call (.const (.func 21 [] [])) [(.tmp 2)]), none⟩])
  (.cond (.tmp 3)
   (.region [⟨(some 4), (.val (.mov (.tmp 0))), none⟩,
     ⟨(some 5), (.val (.nilck (.tmp 4))), none⟩,
     ⟨(some 6), (.val (.faddr 3 (.tmp 5))), none⟩,
     ⟨(some 7), (.val (.load none (.tmp 6))), none⟩,
     ⟨(some 8), (.val (.bin .add (.tmp 7) (.const (.int .i64 1)))), none⟩,
     ⟨(some 9), (.val (.nilck (.tmp 4))), none⟩,
     ⟨(some 10), (.val (.faddr 3 (.tmp 9))), none⟩,
     ⟨none, (.val (.store 1 (.tmp 10) (.tmp 8))), none⟩])
   .skip)),
 []⟩
theorem ok11 : cFun Try.prog G Try.f11 = some F11 := by kernel_rfl

/- (*balustrade/scope.Scopes).Depth -/
def F12 : IFun :=
 ⟨9,
 (.seq
  (.region [⟨(some 2), (.val (.mov (.const (.int .i64 0)))), none⟩])
  (.seq
   (.seq
    (.region [⟨(some 3), (.val (.mov (.tmp 0))), none⟩,
      ⟨(some 4), (.val (.eq false (.prim 3) (.tmp 3) (.const .nilptr))), none⟩])
    (.cond (.tmp 4)
     (.seq
      (.region [⟨(some 2), (.val (.mov (.const (.int .i64 0)))), none⟩])
      .ret)
     .skip))
   (.seq
    (.region [⟨(some 5), (.val (.mov (.tmp 0))), none⟩,
      ⟨(some 6), (.val (.nilck (.tmp 5))), none⟩,
      ⟨(some 7), (.val (.faddr 3 (.tmp 6))), none⟩,
      ⟨(some 8), (.val (.load none (.tmp 7))), none⟩,
      ⟨(some 2), (.val (.mov (.tmp 8))), none⟩])
    .ret))),
 [.tmp 2]⟩
theorem ok12 : cFun Try.prog G Try.f12 = some F12 := by kernel_rfl

/- (*balustrade/scope.Scopes).Close -/
def F13l0 : ICode :=
 (.seq
  (.seq
   (.region [⟨(some 16), (.val (.mov (.tmp 3))), none⟩,
     ⟨(some 17), (.val (.bin .gtr (.tmp 16) (.const (.int .i64 0)))), none⟩])
   (.cond (.tmp 17)
    .skip
    (.exit 0)))
  (.seq
   (.block 1
    (.seq
     (.region [⟨(some 20), (.val (.mov (.tmp 0))), none⟩,
       ⟨(some 21), (.val (.nilck (.tmp 20))), none⟩,
       ⟨(some 22), (.val (.faddr 1 (.tmp 21))), none⟩,
       ⟨(some 23), (.val (.load none (.tmp 22))), none⟩,
       ⟨(some 24), (.val (.mov (.tmp 3))), none⟩,
       ⟨(some 25), (.val (.bin .sub (.tmp 24) (.const (.int .i64 1)))), none⟩,
       ⟨(some 26), (.val (.iaddr 1 (.tmp 23) (.tmp 25))), none⟩,
       ⟨(some 27), (.val (.load none (.tmp 26))), none⟩,
       ⟨(some 4), (.val (.mov (.tmp 27))), none⟩])
     (.seq
      (.region [⟨(some 29), (.val (.mov (.tmp 0))), none⟩,
        ⟨(some 30), (.val (.mov (.tmp 4))), none⟩,
        ⟨(some 31), (.call (.const (.func 20 [] [])) [(.tmp 29), (.tmp 30)]), none⟩,
        ⟨(some 28), (.val (.mov (.tmp 31))), none⟩,
        ⟨(some 32), (.val (.extract (.tmp 28) 0)), none⟩,
        ⟨(some 33), (.val (.extract (.tmp 28) 1)), none⟩,
        ⟨(some 5), (.val (.alloc 55 [(.int .i64 0), (.int .i64 0), (.int .i64 0)])), none⟩,
        ⟨none, (.val (.store 3 (.tmp 5) (.tmp 32))), none⟩,
        ⟨(some 6), (.val (.mov (.tmp 33))), none⟩])
      (.seq
       (.seq
        (.draw [⟨(some 34), (.val (.faddr 2 (.tmp 5))), none⟩,
          ⟨(some 35), (.val (.load none (.tmp 34))), none⟩,
          ⟨(some 36), (.val (.mov (.tmp 0))), none⟩,
          ⟨(some 37), (.val (.nilck (.tmp 36))), none⟩,
          ⟨(some 38), (.val (.faddr 3 (.tmp 37))), none⟩,
          ⟨(some 39), (.val (.load none (.tmp 38))), none⟩,
          ⟨(some 40), (.val (.bin .lss (.tmp 35) (.tmp 39))), none⟩] [])
        (.cond (.tmp 40)
         (.exit 0)
         .skip))
       (.seq
        (.region [⟨(some 41), (.val (.mov (.tmp 0))), none⟩,
          ⟨(some 42), (.val (.mov (.tmp 0))), none⟩,
          ⟨(some 43), (.val (.nilck (.tmp 42))), none⟩,
          ⟨(some 44), (.val (.faddr 1 (.tmp 43))), none⟩,
          ⟨(some 45), (.val (.load none (.tmp 44))), none⟩,
          ⟨(some 46), (.val (.mov (.tmp 3))), none⟩,
          ⟨(some 47), (.val (.bin .sub (.tmp 46) (.const (.int .i64 1)))), none⟩,
          ⟨(some 48), (.val (.slsl 1 (.tmp 45) none (some (.tmp 47)) none)), none⟩,
          ⟨(some 49), (.val (.nilck (.tmp 41))), none⟩,
          ⟨(some 50), (.val (.faddr 1 (.tmp 49))), none⟩,
          ⟨none, (.val (.store 1 (.tmp 50) (.tmp 48))), none⟩])
        (.seq
         (.region [⟨(some 51), (.val (.mov (.tmp 0))), none⟩,
           ⟨(some 52), (.val (.nilck (.tmp 51))), none⟩,
           ⟨(some 53), (.val (.faddr 0 (.tmp 52))), none⟩,
           ⟨(some 54), (.val (.load none (.tmp 53))), none⟩,
           ⟨(some 55), (.val (.mov (.tmp 4))), none⟩,
           ⟨(some 56), (.val (.lookup 1 .nilslice false (.tmp 54) (.tmp 55))), none⟩,
           ⟨(some 7), (.val (.mov (.tmp 56))), none⟩])
         (.seq
          (.region [⟨(some 57), (.val (.mov (.tmp 7))), none⟩,
            ⟨(some 58), (.val (.len (.tmp 57))), none⟩,
            ⟨(some 59), (.val (.bin .gtr (.tmp 58) (.const (.int .i64 1)))), none⟩])
          (.cond (.tmp 59)
           (.draw [⟨(some 60), (.val (.mov (.tmp 0))), none⟩,
             ⟨(some 61), (.val (.nilck (.tmp 60))), none⟩,
             ⟨(some 62), (.val (.faddr 0 (.tmp 61))), none⟩,
             ⟨(some 63), (.val (.load none (.tmp 62))), none⟩,
             ⟨(some 64), (.val (.mov (.tmp 4))), none⟩,
             ⟨(some 65), (.val (.mov (.tmp 7))), none⟩,
             ⟨(some 66), (.val (.mov (.tmp 7))), none⟩,
             ⟨(some 67), (.val (.len (.tmp 66))), none⟩,
             ⟨(some 68), (.val (.bin .sub (.tmp 67) (.const (.int .i64 1)))), none⟩,
             ⟨(some 69), (.val (.slsl 3 (.tmp 65) none (some (.tmp 68)) none)), none⟩,
             ⟨none, (.val (.mapupd 1 (.tmp 63) (.tmp 64) (.tmp 69))), none⟩] [(3, 9)])
           (.region [⟨(some 70), (.val (.mov (.tmp 0))), none⟩,
             ⟨(some 71), (.val (.nilck (.tmp 70))), none⟩,
             ⟨(some 72), (.val (.faddr 0 (.tmp 71))), none⟩,
             ⟨(some 73), (.val (.load none (.tmp 72))), none⟩,
             ⟨(some 74), (.val (.mov (.tmp 4))), none⟩,
             ⟨none, (.val (.delete 1 (.tmp 73) (.tmp 74))), none⟩])))))))))
   (.region [⟨(some 18), (.val (.mov (.tmp 3))), none⟩,
     ⟨(some 19), (.val (.bin .sub (.tmp 18) (.const (.int .i64 1)))), none⟩,
     ⟨(some 3), (.val (.mov (.tmp 19))), none⟩])))
def F13 : IFun :=
 ⟨82,
 (.seq
  (.region [⟨(some 2), (.val (.mov (.const (.bool false)))), none⟩])
  (.seq
   (.seq
    (.region [⟨(some 8), (.val (.mov (.tmp 0))), none⟩,
      ⟨(some 9), (.call (.const (.func 12 [] [])) [(.tmp 8)]), none⟩,
      ⟨(some 10), (.val (.bin .lss (.tmp 9) (.const (.int .i64 2)))), none⟩])
    (.cond (.tmp 10)
     (.seq
      (.region [⟨(some 2), (.val (.mov (.const (.bool false)))), none⟩])
      .ret)
     .skip))
   (.seq
    (.seq
     (.region [⟨(some 11), (.val (.mov (.tmp 0))), none⟩,
       ⟨(some 12), (.val (.nilck (.tmp 11))), none⟩,
       ⟨(some 13), (.val (.faddr 1 (.tmp 12))), none⟩,
       ⟨(some 14), (.val (.load none (.tmp 13))), none⟩,
       ⟨(some 15), (.val (.len (.tmp 14))), none⟩,
       ⟨(some 3), (.val (.mov (.tmp 15))), none⟩])
     (.block 0
      (.loop F13l0)))
    (.seq
     (.region [⟨(some 75), (.val (.mov (.tmp 0))), none⟩,
       ⟨(some 76), (.val (.nilck (.tmp 75))), none⟩,
       ⟨(some 77), (.val (.faddr 3 (.tmp 76))), none⟩,
       ⟨(some 78), (.val (.load none (.tmp 77))), none⟩,
       ⟨(some 79), (.val (.bin .sub (.tmp 78) (.const (.int .i64 1)))), none⟩,
       ⟨(some 80), (.val (.nilck (.tmp 75))), none⟩,
       ⟨(some 81), (.val (.faddr 3 (.tmp 80))), none⟩,
       ⟨none, (.val (.store 1 (.tmp 81) (.tmp 79))), none⟩])
     (.seq
      (.region [⟨(some 2), (.val (.mov (.const (.bool true)))), none⟩])
      .ret))))),
 [.tmp 2]⟩
theorem ok13 : cFun Try.prog G Try.f13 = some F13 := by kernel_rfl

/- balustrade/balustradebase.SameInts -/
def F14l0 : ICode :=
 (.seq
  (.seq
   (.region [⟨(some 11), (.val (.mov (.tmp 5))), none⟩,
     ⟨(some 12), (.val (.mov (.tmp 0))), none⟩,
     ⟨(some 13), (.val (.len (.tmp 12))), none⟩,
     ⟨(some 14), (.val (.bin .lss (.tmp 11) (.tmp 13))), none⟩])
   (.cond (.tmp 14)
    .skip
    (.exit 0)))
  (.seq
   (.block 1
    (.seq
     (.draw [⟨(some 17), (.val (.mov (.tmp 0))), none⟩,
       ⟨(some 18), (.val (.mov (.tmp 5))), none⟩,
       ⟨(some 19), (.val (.iaddr 1 (.tmp 17) (.tmp 18))), none⟩,
       ⟨(some 20), (.val (.load none (.tmp 19))), none⟩,
       ⟨(some 21), (.val (.mov (.tmp 1))), none⟩,
       ⟨(some 22), (.val (.mov (.tmp 5))), none⟩,
       ⟨(some 23), (.val (.iaddr 1 (.tmp 21) (.tmp 22))), none⟩,
       ⟨(some 24), (.val (.load none (.tmp 23))), none⟩,
       ⟨(some 25), (.val (.eq true (.prim 1) (.tmp 20) (.tmp 24))), none⟩] [])
     (.cond (.tmp 25)
      (.seq
       (.region [⟨(some 4), (.val (.mov (.const (.bool false)))), none⟩])
       .ret)
      .skip)))
   (.region [⟨(some 15), (.val (.mov (.tmp 5))), none⟩,
     ⟨(some 16), (.val (.bin .add (.tmp 15) (.const (.int .i64 1)))), none⟩,
     ⟨(some 5), (.val (.mov (.tmp 16))), none⟩])))
def F14 : IFun :=
 ⟨26,
 (.seq
  (.region [⟨(some 4), (.val (.mov (.const (.bool false)))), none⟩])
  (.seq
   (.seq
    (.region [⟨(some 6), (.val (.mov (.tmp 0))), none⟩,
      ⟨(some 7), (.val (.len (.tmp 6))), none⟩,
      ⟨(some 8), (.val (.mov (.tmp 1))), none⟩,
      ⟨(some 9), (.val (.len (.tmp 8))), none⟩,
      ⟨(some 10), (.val (.eq true (.prim 1) (.tmp 7) (.tmp 9))), none⟩])
    (.cond (.tmp 10)
     (.seq
      (.region [⟨(some 4), (.val (.mov (.const (.bool false)))), none⟩])
      .ret)
     .skip))
   (.seq
    (.seq
     (.region [⟨(some 5), (.val (.mov (.const (.int .i64 0)))), none⟩])
     (.block 0
      (.loop F14l0)))
    (.seq
     (.region [⟨(some 4), (.val (.mov (.const (.bool true)))), none⟩])
     .ret)))),
 [.tmp 4]⟩
theorem ok14 : cFun Try.prog G Try.f14 = some F14 := by kernel_rfl

end Go.Proofs.Ytjegondbhejpcaa.Ev
