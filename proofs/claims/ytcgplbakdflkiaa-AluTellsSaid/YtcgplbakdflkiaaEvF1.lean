/- The evaluator's code of the given functions, printed by program (EvPut); part 1. -/
import Derived.Test.YtcgplbakdflkiaaEvF0
namespace Go.Proofs.Ytcgplbakdflkiaa.Ev
open Go

/- balustrade/balustraderef13.Not -/
def F20 : IFun :=
 ⟨17,
 (.seq
  (.region [⟨(some 1), (.val (.box 23 (.tmp 0))), none⟩,
    ⟨(some 2), (.val (.alloc 23 [(.int .i64 0), (.int .i64 0)])), none⟩,
    ⟨(some 3), (.val (.mov (.const (.bool false)))), none⟩])
  (.seq
   (.seq
    (.region [⟨(some 4), (.val (.faddr 0 (.tmp 1))), none⟩,
      ⟨(some 5), (.val (.load none (.tmp 4))), none⟩,
      ⟨(some 6), (.val (.eq true (.prim 1) (.tmp 5) (.const (.int .i64 2)))), none⟩,
      ⟨(some 7), (.val (.mov (.tmp 6))), none⟩,
      ⟨(some 8), (.val (.load (some 2) (.tmp 1))), (some (7, false))⟩,
      ⟨(some 9), (.call (.const (.func 15 [] [])) [(.tmp 8)]), (some (7, false))⟩,
      ⟨(some 10), (.val (.un .not (.tmp 9))), (some (7, false))⟩,
      ⟨(some 11), (.val (.pick (.tmp 7) (.const (.bool true)) (.tmp 10))), none⟩])
    (.cond (.tmp 11)
     (.seq
      (.region [⟨(some 12), (.val (.build [(.int .i64 0), (.int .i64 0)] [])), none⟩,
        ⟨none, (.val (.store 2 (.tmp 2) (.tmp 12))), none⟩,
        ⟨(some 3), (.val (.mov (.const (.bool false)))), none⟩])
      .ret)
     .skip))
   (.seq
    (.region [⟨(some 13), (.val (.faddr 1 (.tmp 1))), none⟩,
      ⟨(some 14), (.val (.load none (.tmp 13))), none⟩,
      ⟨(some 15), (.val (.eq false (.prim 1) (.tmp 14) (.const (.int .i64 0)))), none⟩,
      ⟨(some 16), (.call (.const (.func 12 [] [])) [(.tmp 15)]), none⟩,
      ⟨none, (.val (.store 2 (.tmp 2) (.tmp 16))), none⟩,
      ⟨(some 3), (.val (.mov (.const (.bool true)))), none⟩])
    .ret))),
 [.cell 2 (some 2), .tmp 3]⟩
theorem ok20 : cFun Try.prog G Try.f20 = some F20 := by kernel_rfl

/- balustrade/alu.stands -/
def F21 : IFun :=
 ⟨26,
 (.seq
  (.region [⟨(some 6), (.val (.mov (.const (.bool false)))), none⟩])
  (.seq
   (.region [⟨(some 8), (.val (.mov (.tmp 1))), none⟩,
     ⟨(some 9), (.val (.mov (.tmp 2))), none⟩,
     ⟨(some 10), (.call (.const (.func 26 [] [])) [(.tmp 8), (.tmp 9)]), none⟩,
     ⟨(some 7), (.val (.mov (.tmp 10))), none⟩])
   (.seq
    (.seq
     (.region [⟨(some 11), (.val (.mov (.tmp 0))), none⟩])
     (.block 0
      (.seq
       (.region [⟨(some 13), (.val (.eq false (.prim 1) (.tmp 11) (.const (.int .i64 5)))), none⟩,
         ⟨(some 12), (.val (.mov (.tmp 13))), none⟩])
       (.cond (.tmp 12)
        (.seq
         (.region [⟨(some 14), (.val (.mov (.tmp 7))), none⟩,
           ⟨(some 15), (.val (.bin .lss (.tmp 14) (.const (.int .i64 0)))), none⟩,
           ⟨(some 6), (.val (.mov (.tmp 15))), none⟩])
         .ret)
        (.seq
         (.region [⟨(some 17), (.val (.eq false (.prim 1) (.tmp 11) (.const (.int .i64 8)))), none⟩,
           ⟨(some 16), (.val (.mov (.tmp 17))), none⟩])
         (.cond (.tmp 16)
          (.seq
           (.region [⟨(some 18), (.val (.mov (.tmp 7))), none⟩,
             ⟨(some 19), (.val (.bin .geq (.tmp 18) (.const (.int .i64 0)))), none⟩,
             ⟨(some 6), (.val (.mov (.tmp 19))), none⟩])
           .ret)
          (.seq
           (.region [⟨(some 21), (.val (.eq false (.prim 1) (.tmp 11) (.const (.int .i64 7)))), none⟩,
             ⟨(some 20), (.val (.mov (.tmp 21))), none⟩])
           (.cond (.tmp 20)
            (.seq
             (.region [⟨(some 22), (.val (.mov (.tmp 7))), none⟩,
               ⟨(some 23), (.val (.bin .gtr (.tmp 22) (.const (.int .i64 0)))), none⟩,
               ⟨(some 6), (.val (.mov (.tmp 23))), none⟩])
             .ret)
            .skip))))))))
    (.seq
     (.region [⟨(some 24), (.val (.mov (.tmp 7))), none⟩,
       ⟨(some 25), (.val (.bin .leq (.tmp 24) (.const (.int .i64 0)))), none⟩,
       ⟨(some 6), (.val (.mov (.tmp 25))), none⟩])
     .ret)))),
 [.tmp 6]⟩
theorem ok21 : cFun Try.prog G Try.f21 = some F21 := by kernel_rfl

/- balustrade/alu.works -/
def F22 : IFun :=
 ⟨30,
 (.seq
  (.region [⟨(some 2), (.val (.alloc 39 [.nilfunc, (.int .i64 0)])), none⟩,
    ⟨(some 3), (.val (.mov (.const (.bool false)))), none⟩])
  (.seq
   (.seq
    (.region [⟨(some 4), (.val (.mov (.tmp 0))), none⟩])
    (.block 0
     (.seq
      (.region [⟨(some 6), (.val (.eq false (.prim 1) (.tmp 4) (.const (.int .i64 9)))), none⟩,
        ⟨(some 5), (.val (.mov (.tmp 6))), none⟩])
      (.cond (.tmp 5)
       (.seq
        (.region [⟨(some 7), (.val (.build [.nilfunc, (.int .i64 0)] [(0, 1, (.const (.func 27 [] []))), (1, 1, (.const (.int .i64 3)))])), none⟩,
          ⟨none, (.val (.store 2 (.tmp 2) (.tmp 7))), none⟩,
          ⟨(some 3), (.val (.mov (.const (.bool true)))), none⟩])
        .ret)
       (.seq
        (.region [⟨(some 9), (.val (.eq false (.prim 1) (.tmp 4) (.const (.int .i64 10)))), none⟩,
          ⟨(some 8), (.val (.mov (.tmp 9))), none⟩])
        (.cond (.tmp 8)
         (.seq
          (.region [⟨(some 10), (.val (.build [.nilfunc, (.int .i64 0)] [(0, 1, (.const (.func 28 [] []))), (1, 1, (.const (.int .i64 3)))])), none⟩,
            ⟨none, (.val (.store 2 (.tmp 2) (.tmp 10))), none⟩,
            ⟨(some 3), (.val (.mov (.const (.bool true)))), none⟩])
          .ret)
         (.seq
          (.region [⟨(some 12), (.val (.eq false (.prim 1) (.tmp 4) (.const (.int .i64 13)))), none⟩,
            ⟨(some 11), (.val (.mov (.tmp 12))), none⟩])
          (.cond (.tmp 11)
           (.seq
            (.region [⟨(some 13), (.val (.build [.nilfunc, (.int .i64 0)] [(0, 1, (.const (.func 29 [] []))), (1, 1, (.const (.int .i64 3)))])), none⟩,
              ⟨none, (.val (.store 2 (.tmp 2) (.tmp 13))), none⟩,
              ⟨(some 3), (.val (.mov (.const (.bool true)))), none⟩])
            .ret)
           (.seq
            (.region [⟨(some 15), (.val (.eq false (.prim 1) (.tmp 4) (.const (.int .i64 14)))), none⟩,
              ⟨(some 14), (.val (.mov (.tmp 15))), none⟩])
            (.cond (.tmp 14)
             (.seq
              (.region [⟨(some 16), (.val (.build [.nilfunc, (.int .i64 0)] [(0, 1, (.const (.func 30 [] []))), (1, 1, (.const (.int .i64 4)))])), none⟩,
                ⟨none, (.val (.store 2 (.tmp 2) (.tmp 16))), none⟩,
                ⟨(some 3), (.val (.mov (.const (.bool true)))), none⟩])
              .ret)
             (.seq
              (.region [⟨(some 18), (.val (.eq false (.prim 1) (.tmp 4) (.const (.int .i64 15)))), none⟩,
                ⟨(some 17), (.val (.mov (.tmp 18))), none⟩])
              (.cond (.tmp 17)
               (.seq
                (.region [⟨(some 19), (.val (.build [.nilfunc, (.int .i64 0)] [(0, 1, (.const (.func 31 [] []))), (1, 1, (.const (.int .i64 4)))])), none⟩,
                  ⟨none, (.val (.store 2 (.tmp 2) (.tmp 19))), none⟩,
                  ⟨(some 3), (.val (.mov (.const (.bool true)))), none⟩])
                .ret)
               (.seq
                (.region [⟨(some 21), (.val (.eq false (.prim 1) (.tmp 4) (.const (.int .i64 11)))), none⟩,
                  ⟨(some 20), (.val (.mov (.tmp 21))), none⟩])
                (.cond (.tmp 20)
                 (.seq
                  (.region [⟨(some 22), (.val (.build [.nilfunc, (.int .i64 0)] [(0, 1, (.const (.func 32 [] [])))])), none⟩,
                    ⟨none, (.val (.store 2 (.tmp 2) (.tmp 22))), none⟩,
                    ⟨(some 3), (.val (.mov (.const (.bool true)))), none⟩])
                  .ret)
                 (.seq
                  (.region [⟨(some 24), (.val (.eq false (.prim 1) (.tmp 4) (.const (.int .i64 12)))), none⟩,
                    ⟨(some 23), (.val (.mov (.tmp 24))), none⟩])
                  (.cond (.tmp 23)
                   (.seq
                    (.region [⟨(some 25), (.val (.build [.nilfunc, (.int .i64 0)] [(0, 1, (.const (.func 33 [] [])))])), none⟩,
                      ⟨none, (.val (.store 2 (.tmp 2) (.tmp 25))), none⟩,
                      ⟨(some 3), (.val (.mov (.const (.bool true)))), none⟩])
                    .ret)
                   (.seq
                    (.region [⟨(some 27), (.val (.eq false (.prim 1) (.tmp 4) (.const (.int .i64 16)))), none⟩,
                      ⟨(some 26), (.val (.mov (.tmp 27))), none⟩])
                    (.cond (.tmp 26)
                     (.seq
                      (.region [⟨(some 28), (.val (.build [.nilfunc, (.int .i64 0)] [(0, 1, (.const (.func 34 [] [])))])), none⟩,
                        ⟨none, (.val (.store 2 (.tmp 2) (.tmp 28))), none⟩,
                        ⟨(some 3), (.val (.mov (.const (.bool true)))), none⟩])
                      .ret)
                     .skip))))))))))))))))))
   (.seq
    (.region [⟨(some 29), (.val (.build [.nilfunc, (.int .i64 0)] [])), none⟩,
      ⟨none, (.val (.store 2 (.tmp 2) (.tmp 29))), none⟩,
      ⟨(some 3), (.val (.mov (.const (.bool false)))), none⟩])
    .ret))),
 [.cell 2 (some 2), .tmp 3]⟩
theorem ok22 : cFun Try.prog G Try.f22 = some F22 := by kernel_rfl

/- balustrade/balustraderef13.ints -/
def F23 : IFun :=
 ⟨142,
 (.seq
  (.region [⟨(some 6), (.val (.alloc 23 [(.int .i64 0), (.int .i64 0)])), none⟩,
    ⟨(some 7), (.val (.mov (.const (.int .i64 0)))), none⟩,
    ⟨(some 8), (.val (.mov (.const (.bool false)))), none⟩])
  (.seq
   (.seq
    (.region [⟨(some 19), (.val (.mov (.tmp 0))), none⟩])
    (.block 0
     (.seq
      (.region [⟨(some 21), (.val (.eq false (.prim 1) (.tmp 19) (.const (.int .i64 5)))), none⟩,
        ⟨(some 20), (.val (.mov (.tmp 21))), none⟩])
      (.cond (.tmp 20)
       (.seq
        (.region [⟨(some 22), (.val (.mov (.tmp 1))), none⟩,
          ⟨(some 23), (.val (.mov (.tmp 2))), none⟩,
          ⟨(some 24), (.val (.bin .lss (.tmp 22) (.tmp 23))), none⟩,
          ⟨(some 25), (.call (.const (.func 12 [] [])) [(.tmp 24)]), none⟩,
          ⟨none, (.val (.store 2 (.tmp 6) (.tmp 25))), none⟩,
          ⟨(some 7), (.val (.mov (.const (.int .i64 0)))), none⟩,
          ⟨(some 8), (.val (.mov (.const (.bool true)))), none⟩])
        .ret)
       (.seq
        (.region [⟨(some 27), (.val (.eq false (.prim 1) (.tmp 19) (.const (.int .i64 6)))), none⟩,
          ⟨(some 26), (.val (.mov (.tmp 27))), none⟩])
        (.cond (.tmp 26)
         (.seq
          (.region [⟨(some 28), (.val (.mov (.tmp 1))), none⟩,
            ⟨(some 29), (.val (.mov (.tmp 2))), none⟩,
            ⟨(some 30), (.val (.bin .leq (.tmp 28) (.tmp 29))), none⟩,
            ⟨(some 31), (.call (.const (.func 12 [] [])) [(.tmp 30)]), none⟩,
            ⟨none, (.val (.store 2 (.tmp 6) (.tmp 31))), none⟩,
            ⟨(some 7), (.val (.mov (.const (.int .i64 0)))), none⟩,
            ⟨(some 8), (.val (.mov (.const (.bool true)))), none⟩])
          .ret)
         (.seq
          (.region [⟨(some 33), (.val (.eq false (.prim 1) (.tmp 19) (.const (.int .i64 7)))), none⟩,
            ⟨(some 32), (.val (.mov (.tmp 33))), none⟩])
          (.cond (.tmp 32)
           (.seq
            (.region [⟨(some 34), (.val (.mov (.tmp 1))), none⟩,
              ⟨(some 35), (.val (.mov (.tmp 2))), none⟩,
              ⟨(some 36), (.val (.bin .gtr (.tmp 34) (.tmp 35))), none⟩,
              ⟨(some 37), (.call (.const (.func 12 [] [])) [(.tmp 36)]), none⟩,
              ⟨none, (.val (.store 2 (.tmp 6) (.tmp 37))), none⟩,
              ⟨(some 7), (.val (.mov (.const (.int .i64 0)))), none⟩,
              ⟨(some 8), (.val (.mov (.const (.bool true)))), none⟩])
            .ret)
           (.seq
            (.region [⟨(some 39), (.val (.eq false (.prim 1) (.tmp 19) (.const (.int .i64 8)))), none⟩,
              ⟨(some 38), (.val (.mov (.tmp 39))), none⟩])
            (.cond (.tmp 38)
             (.seq
              (.region [⟨(some 40), (.val (.mov (.tmp 1))), none⟩,
                ⟨(some 41), (.val (.mov (.tmp 2))), none⟩,
                ⟨(some 42), (.val (.bin .geq (.tmp 40) (.tmp 41))), none⟩,
                ⟨(some 43), (.call (.const (.func 12 [] [])) [(.tmp 42)]), none⟩,
                ⟨none, (.val (.store 2 (.tmp 6) (.tmp 43))), none⟩,
                ⟨(some 7), (.val (.mov (.const (.int .i64 0)))), none⟩,
                ⟨(some 8), (.val (.mov (.const (.bool true)))), none⟩])
              .ret)
             (.seq
              (.region [⟨(some 45), (.val (.eq false (.prim 1) (.tmp 19) (.const (.int .i64 9)))), none⟩,
                ⟨(some 44), (.val (.mov (.tmp 45))), none⟩])
              (.cond (.tmp 44)
               (.seq
                (.region [⟨(some 47), (.val (.mov (.tmp 1))), none⟩,
                  ⟨(some 48), (.val (.mov (.tmp 2))), none⟩,
                  ⟨(some 49), (.call (.const (.func 35 [] [])) [(.tmp 47), (.tmp 48)]), none⟩,
                  ⟨(some 46), (.val (.mov (.tmp 49))), none⟩,
                  ⟨(some 50), (.val (.extract (.tmp 46) 0)), none⟩,
                  ⟨(some 51), (.val (.extract (.tmp 46) 1)), none⟩,
                  ⟨(some 9), (.val (.mov (.tmp 50))), none⟩,
                  ⟨(some 10), (.val (.mov (.tmp 51))), none⟩])
                (.seq
                 (.region [⟨(some 52), (.val (.mov (.tmp 9))), none⟩,
                   ⟨(some 53), (.val (.mov (.tmp 10))), none⟩,
                   ⟨(some 54), (.call (.const (.func 25 [] [])) [(.tmp 52), (.tmp 53), (.const (.int .i64 3))]), none⟩,
                   ⟨(some 55), (.val (.extract (.tmp 54) 0)), none⟩,
                   ⟨(some 56), (.val (.extract (.tmp 54) 1)), none⟩,
                   ⟨(some 57), (.val (.extract (.tmp 54) 2)), none⟩,
                   ⟨none, (.val (.store 2 (.tmp 6) (.tmp 55))), none⟩,
                   ⟨(some 7), (.val (.mov (.tmp 56))), none⟩,
                   ⟨(some 8), (.val (.mov (.tmp 57))), none⟩])
                 .ret))
               (.seq
                (.region [⟨(some 59), (.val (.eq false (.prim 1) (.tmp 19) (.const (.int .i64 10)))), none⟩,
                  ⟨(some 58), (.val (.mov (.tmp 59))), none⟩])
                (.cond (.tmp 58)
                 (.seq
                  (.region [⟨(some 61), (.val (.mov (.tmp 1))), none⟩,
                    ⟨(some 62), (.val (.mov (.tmp 2))), none⟩,
                    ⟨(some 63), (.call (.const (.func 36 [] [])) [(.tmp 61), (.tmp 62)]), none⟩,
                    ⟨(some 60), (.val (.mov (.tmp 63))), none⟩,
                    ⟨(some 64), (.val (.extract (.tmp 60) 0)), none⟩,
                    ⟨(some 65), (.val (.extract (.tmp 60) 1)), none⟩,
                    ⟨(some 11), (.val (.mov (.tmp 64))), none⟩,
                    ⟨(some 12), (.val (.mov (.tmp 65))), none⟩])
                  (.seq
                   (.region [⟨(some 66), (.val (.mov (.tmp 11))), none⟩,
                     ⟨(some 67), (.val (.mov (.tmp 12))), none⟩,
                     ⟨(some 68), (.call (.const (.func 25 [] [])) [(.tmp 66), (.tmp 67), (.const (.int .i64 3))]), none⟩,
                     ⟨(some 69), (.val (.extract (.tmp 68) 0)), none⟩,
                     ⟨(some 70), (.val (.extract (.tmp 68) 1)), none⟩,
                     ⟨(some 71), (.val (.extract (.tmp 68) 2)), none⟩,
                     ⟨none, (.val (.store 2 (.tmp 6) (.tmp 69))), none⟩,
                     ⟨(some 7), (.val (.mov (.tmp 70))), none⟩,
                     ⟨(some 8), (.val (.mov (.tmp 71))), none⟩])
                   .ret))
                 (.seq
                  (.region [⟨(some 73), (.val (.eq false (.prim 1) (.tmp 19) (.const (.int .i64 11)))), none⟩,
                    ⟨(some 72), (.val (.mov (.tmp 73))), none⟩])
                  (.cond (.tmp 72)
                   (.seq
                    (.region [⟨(some 74), (.val (.mov (.tmp 1))), none⟩,
                      ⟨(some 75), (.val (.conv (.int .u64) (.tmp 74))), none⟩,
                      ⟨(some 76), (.val (.mov (.tmp 2))), none⟩,
                      ⟨(some 77), (.val (.conv (.int .u64) (.tmp 76))), none⟩,
                      ⟨(some 78), (.val (.bin .add (.tmp 75) (.tmp 77))), none⟩,
                      ⟨(some 79), (.val (.conv (.int .i64) (.tmp 78))), none⟩,
                      ⟨(some 80), (.call (.const (.func 10 [] [])) [(.tmp 79)]), none⟩,
                      ⟨none, (.val (.store 2 (.tmp 6) (.tmp 80))), none⟩,
                      ⟨(some 7), (.val (.mov (.const (.int .i64 0)))), none⟩,
                      ⟨(some 8), (.val (.mov (.const (.bool true)))), none⟩])
                    .ret)
                   (.seq
                    (.region [⟨(some 82), (.val (.eq false (.prim 1) (.tmp 19) (.const (.int .i64 12)))), none⟩,
                      ⟨(some 81), (.val (.mov (.tmp 82))), none⟩])
                    (.cond (.tmp 81)
                     (.seq
                      (.region [⟨(some 83), (.val (.mov (.tmp 1))), none⟩,
                        ⟨(some 84), (.val (.conv (.int .u64) (.tmp 83))), none⟩,
                        ⟨(some 85), (.val (.mov (.tmp 2))), none⟩,
                        ⟨(some 86), (.val (.conv (.int .u64) (.tmp 85))), none⟩,
                        ⟨(some 87), (.val (.bin .sub (.tmp 84) (.tmp 86))), none⟩,
                        ⟨(some 88), (.val (.conv (.int .i64) (.tmp 87))), none⟩,
                        ⟨(some 89), (.call (.const (.func 10 [] [])) [(.tmp 88)]), none⟩,
                        ⟨none, (.val (.store 2 (.tmp 6) (.tmp 89))), none⟩,
                        ⟨(some 7), (.val (.mov (.const (.int .i64 0)))), none⟩,
                        ⟨(some 8), (.val (.mov (.const (.bool true)))), none⟩])
                      .ret)
                     (.seq
                      (.region [⟨(some 91), (.val (.eq false (.prim 1) (.tmp 19) (.const (.int .i64 13)))), none⟩,
                        ⟨(some 90), (.val (.mov (.tmp 91))), none⟩])
                      (.cond (.tmp 90)
                       (.seq
                        (.region [⟨(some 93), (.val (.mov (.tmp 1))), none⟩,
                          ⟨(some 94), (.val (.mov (.tmp 2))), none⟩,
                          ⟨(some 95), (.call (.const (.func 37 [] [])) [(.tmp 93), (.tmp 94)]), none⟩,
                          ⟨(some 92), (.val (.mov (.tmp 95))), none⟩,
                          ⟨(some 96), (.val (.extract (.tmp 92) 0)), none⟩,
                          ⟨(some 97), (.val (.extract (.tmp 92) 1)), none⟩,
                          ⟨(some 13), (.val (.mov (.tmp 96))), none⟩,
                          ⟨(some 14), (.val (.mov (.tmp 97))), none⟩])
                        (.seq
                         (.region [⟨(some 98), (.val (.mov (.tmp 13))), none⟩,
                           ⟨(some 99), (.val (.mov (.tmp 14))), none⟩,
                           ⟨(some 100), (.call (.const (.func 25 [] [])) [(.tmp 98), (.tmp 99), (.const (.int .i64 3))]), none⟩,
                           ⟨(some 101), (.val (.extract (.tmp 100) 0)), none⟩,
                           ⟨(some 102), (.val (.extract (.tmp 100) 1)), none⟩,
                           ⟨(some 103), (.val (.extract (.tmp 100) 2)), none⟩,
                           ⟨none, (.val (.store 2 (.tmp 6) (.tmp 101))), none⟩,
                           ⟨(some 7), (.val (.mov (.tmp 102))), none⟩,
                           ⟨(some 8), (.val (.mov (.tmp 103))), none⟩])
                         .ret))
                       (.seq
                        (.region [⟨(some 105), (.val (.eq false (.prim 1) (.tmp 19) (.const (.int .i64 14)))), none⟩,
                          ⟨(some 104), (.val (.mov (.tmp 105))), none⟩])
                        (.cond (.tmp 104)
                         (.seq
                          (.region [⟨(some 107), (.val (.mov (.tmp 1))), none⟩,
                            ⟨(some 108), (.val (.mov (.tmp 2))), none⟩,
                            ⟨(some 109), (.call (.const (.func 38 [] [])) [(.tmp 107), (.tmp 108)]), none⟩,
                            ⟨(some 106), (.val (.mov (.tmp 109))), none⟩,
                            ⟨(some 110), (.val (.extract (.tmp 106) 0)), none⟩,
                            ⟨(some 111), (.val (.extract (.tmp 106) 1)), none⟩,
                            ⟨(some 15), (.val (.mov (.tmp 110))), none⟩,
                            ⟨(some 16), (.val (.mov (.tmp 111))), none⟩])
                          (.seq
                           (.region [⟨(some 112), (.val (.mov (.tmp 15))), none⟩,
                             ⟨(some 113), (.val (.mov (.tmp 16))), none⟩,
                             ⟨(some 114), (.call (.const (.func 25 [] [])) [(.tmp 112), (.tmp 113), (.const (.int .i64 4))]), none⟩,
                             ⟨(some 115), (.val (.extract (.tmp 114) 0)), none⟩,
                             ⟨(some 116), (.val (.extract (.tmp 114) 1)), none⟩,
                             ⟨(some 117), (.val (.extract (.tmp 114) 2)), none⟩,
                             ⟨none, (.val (.store 2 (.tmp 6) (.tmp 115))), none⟩,
                             ⟨(some 7), (.val (.mov (.tmp 116))), none⟩,
                             ⟨(some 8), (.val (.mov (.tmp 117))), none⟩])
                           .ret))
                         (.seq
                          (.region [⟨(some 119), (.val (.eq false (.prim 1) (.tmp 19) (.const (.int .i64 15)))), none⟩,
                            ⟨(some 118), (.val (.mov (.tmp 119))), none⟩])
                          (.cond (.tmp 118)
                           (.seq
                            (.region [⟨(some 121), (.val (.mov (.tmp 1))), none⟩,
                              ⟨(some 122), (.val (.mov (.tmp 2))), none⟩,
                              ⟨(some 123), (.call (.const (.func 39 [] [])) [(.tmp 121), (.tmp 122)]), none⟩,
                              ⟨(some 120), (.val (.mov (.tmp 123))), none⟩,
                              ⟨(some 124), (.val (.extract (.tmp 120) 0)), none⟩,
                              ⟨(some 125), (.val (.extract (.tmp 120) 1)), none⟩,
                              ⟨(some 17), (.val (.mov (.tmp 124))), none⟩,
                              ⟨(some 18), (.val (.mov (.tmp 125))), none⟩])
                            (.seq
                             (.region [⟨(some 126), (.val (.mov (.tmp 17))), none⟩,
                               ⟨(some 127), (.val (.mov (.tmp 18))), none⟩,
                               ⟨(some 128), (.call (.const (.func 25 [] [])) [(.tmp 126), (.tmp 127), (.const (.int .i64 4))]), none⟩,
                               ⟨(some 129), (.val (.extract (.tmp 128) 0)), none⟩,
                               ⟨(some 130), (.val (.extract (.tmp 128) 1)), none⟩,
                               ⟨(some 131), (.val (.extract (.tmp 128) 2)), none⟩,
                               ⟨none, (.val (.store 2 (.tmp 6) (.tmp 129))), none⟩,
                               ⟨(some 7), (.val (.mov (.tmp 130))), none⟩,
                               ⟨(some 8), (.val (.mov (.tmp 131))), none⟩])
                             .ret))
                           (.seq
                            (.region [⟨(some 133), (.val (.eq false (.prim 1) (.tmp 19) (.const (.int .i64 16)))), none⟩,
                              ⟨(some 132), (.val (.mov (.tmp 133))), none⟩])
                            (.cond (.tmp 132)
                             (.seq
                              (.region [⟨(some 134), (.val (.mov (.tmp 1))), none⟩,
                                ⟨(some 135), (.val (.conv (.int .u64) (.tmp 134))), none⟩,
                                ⟨(some 136), (.val (.mov (.tmp 2))), none⟩,
                                ⟨(some 137), (.val (.conv (.int .u64) (.tmp 136))), none⟩,
                                ⟨(some 138), (.val (.bin .mul (.tmp 135) (.tmp 137))), none⟩,
                                ⟨(some 139), (.val (.conv (.int .i64) (.tmp 138))), none⟩,
                                ⟨(some 140), (.call (.const (.func 10 [] [])) [(.tmp 139)]), none⟩,
                                ⟨none, (.val (.store 2 (.tmp 6) (.tmp 140))), none⟩,
                                ⟨(some 7), (.val (.mov (.const (.int .i64 0)))), none⟩,
                                ⟨(some 8), (.val (.mov (.const (.bool true)))), none⟩])
                              .ret)
                             .skip))))))))))))))))))))))))))
   (.seq
    (.region [⟨(some 141), (.val (.build [(.int .i64 0), (.int .i64 0)] [])), none⟩,
      ⟨none, (.val (.store 2 (.tmp 6) (.tmp 141))), none⟩,
      ⟨(some 7), (.val (.mov (.const (.int .i64 0)))), none⟩,
      ⟨(some 8), (.val (.mov (.const (.bool false)))), none⟩])
    .ret))),
 [.cell 6 (some 2), .tmp 7, .tmp 8]⟩
theorem ok23 : cFun Try.prog G Try.f23 = some F23 := by kernel_rfl

/- balustrade/balustraderef01.Neg -/
def F24 : IFun :=
 ⟨8,
 (.seq
  (.region [⟨(some 2), (.val (.mov (.const (.int .i64 0)))), none⟩,
    ⟨(some 3), (.val (.mov (.const (.bool false)))), none⟩])
  (.seq
   (.seq
    (.region [⟨(some 4), (.val (.mov (.tmp 0))), none⟩,
      ⟨(some 5), (.val (.eq false (.prim 1) (.tmp 4) (.const (.int .i64 (-9223372036854775808))))), none⟩])
    (.cond (.tmp 5)
     (.seq
      (.region [⟨(some 2), (.val (.mov (.const (.int .i64 0)))), none⟩,
        ⟨(some 3), (.val (.mov (.const (.bool false)))), none⟩])
      .ret)
     .skip))
   (.seq
    (.region [⟨(some 6), (.val (.mov (.tmp 0))), none⟩,
      ⟨(some 7), (.val (.un .neg (.tmp 6))), none⟩,
      ⟨(some 2), (.val (.mov (.tmp 7))), none⟩,
      ⟨(some 3), (.val (.mov (.const (.bool true)))), none⟩])
    .ret))),
 [.tmp 2, .tmp 3]⟩
theorem ok24 : cFun Try.prog G Try.f24 = some F24 := by kernel_rfl

/- balustrade/balustraderef13.or -/
def F25 : IFun :=
 ⟨14,
 (.seq
  (.region [⟨(some 6), (.val (.alloc 23 [(.int .i64 0), (.int .i64 0)])), none⟩,
    ⟨(some 7), (.val (.mov (.const (.int .i64 0)))), none⟩,
    ⟨(some 8), (.val (.mov (.const (.bool false)))), none⟩])
  (.seq
   (.seq
    (.region [⟨(some 9), (.val (.mov (.tmp 1))), none⟩])
    (.cond (.tmp 9)
     (.seq
      (.region [⟨(some 10), (.val (.mov (.tmp 0))), none⟩,
        ⟨(some 11), (.call (.const (.func 10 [] [])) [(.tmp 10)]), none⟩,
        ⟨none, (.val (.store 2 (.tmp 6) (.tmp 11))), none⟩,
        ⟨(some 7), (.val (.mov (.const (.int .i64 0)))), none⟩,
        ⟨(some 8), (.val (.mov (.const (.bool true)))), none⟩])
      .ret)
     .skip))
   (.seq
    (.region [⟨(some 12), (.val (.build [(.int .i64 0), (.int .i64 0)] [])), none⟩,
      ⟨(some 13), (.val (.mov (.tmp 2))), none⟩,
      ⟨none, (.val (.store 2 (.tmp 6) (.tmp 12))), none⟩,
      ⟨(some 7), (.val (.mov (.tmp 13))), none⟩,
      ⟨(some 8), (.val (.mov (.const (.bool true)))), none⟩])
    .ret))),
 [.cell 6 (some 2), .tmp 7, .tmp 8]⟩
theorem ok25 : cFun Try.prog G Try.f25 = some F25 := by kernel_rfl

/- cmp.Compare[int] -/
def F26 : IFun :=
 ⟨20,
 (.seq
  (.region [⟨(some 4), (.val (.mov (.const (.int .i64 0)))), none⟩])
  (.seq
   (.region [⟨(some 7), (.val (.mov (.tmp 0))), none⟩,
     ⟨(some 8), (.call (.const (.func 40 [] [])) [(.tmp 7)]), none⟩,
     ⟨(some 5), (.val (.mov (.tmp 8))), none⟩])
   (.seq
    (.region [⟨(some 9), (.val (.mov (.tmp 1))), none⟩,
      ⟨(some 10), (.call (.const (.func 40 [] [])) [(.tmp 9)]), none⟩,
      ⟨(some 6), (.val (.mov (.tmp 10))), none⟩])
    (.seq
     (.seq
      (.region [⟨(some 11), (.val (.mov (.tmp 5))), none⟩])
      (.cond (.tmp 11)
       (.seq
        (.seq
         (.region [⟨(some 12), (.val (.mov (.tmp 6))), none⟩])
         (.cond (.tmp 12)
          (.seq
           (.region [⟨(some 4), (.val (.mov (.const (.int .i64 0)))), none⟩])
           .ret)
          .skip))
        (.seq
         (.region [⟨(some 4), (.val (.mov (.const (.int .i64 (-1))))), none⟩])
         .ret))
       .skip))
     (.seq
      (.seq
       (.region [⟨(some 13), (.val (.mov (.tmp 6))), none⟩])
       (.cond (.tmp 13)
        (.seq
         (.region [⟨(some 4), (.val (.mov (.const (.int .i64 1)))), none⟩])
         .ret)
        .skip))
      (.seq
       (.seq
        (.region [⟨(some 14), (.val (.mov (.tmp 0))), none⟩,
          ⟨(some 15), (.val (.mov (.tmp 1))), none⟩,
          ⟨(some 16), (.val (.bin .lss (.tmp 14) (.tmp 15))), none⟩])
        (.cond (.tmp 16)
         (.seq
          (.region [⟨(some 4), (.val (.mov (.const (.int .i64 (-1))))), none⟩])
          .ret)
         .skip))
       (.seq
        (.seq
         (.region [⟨(some 17), (.val (.mov (.tmp 0))), none⟩,
           ⟨(some 18), (.val (.mov (.tmp 1))), none⟩,
           ⟨(some 19), (.val (.bin .gtr (.tmp 17) (.tmp 18))), none⟩])
         (.cond (.tmp 19)
          (.seq
           (.region [⟨(some 4), (.val (.mov (.const (.int .i64 1)))), none⟩])
           .ret)
          .skip))
        (.seq
         (.region [⟨(some 4), (.val (.mov (.const (.int .i64 0)))), none⟩])
         .ret)))))))),
 [.tmp 4]⟩
theorem ok26 : cFun Try.prog G Try.f26 = some F26 := by kernel_rfl

/- balustrade/arith.Add -/
def F27 : IFun :=
 ⟨19,
 (.seq
  (.region [⟨(some 4), (.val (.mov (.const (.int .i64 0)))), none⟩,
    ⟨(some 5), (.val (.mov (.const (.bool false)))), none⟩])
  (.seq
   (.region [⟨(some 7), (.val (.mov (.tmp 0))), none⟩,
     ⟨(some 8), (.val (.mov (.tmp 1))), none⟩,
     ⟨(some 9), (.val (.bin .add (.tmp 7) (.tmp 8))), none⟩,
     ⟨(some 6), (.val (.mov (.tmp 9))), none⟩])
   (.seq
    (.seq
     (.region [⟨(some 10), (.val (.mov (.tmp 0))), none⟩,
       ⟨(some 11), (.val (.mov (.tmp 6))), none⟩,
       ⟨(some 12), (.val (.bin .xor (.tmp 10) (.tmp 11))), none⟩,
       ⟨(some 13), (.val (.mov (.tmp 1))), none⟩,
       ⟨(some 14), (.val (.mov (.tmp 6))), none⟩,
       ⟨(some 15), (.val (.bin .xor (.tmp 13) (.tmp 14))), none⟩,
       ⟨(some 16), (.val (.bin .and (.tmp 12) (.tmp 15))), none⟩,
       ⟨(some 17), (.val (.bin .lss (.tmp 16) (.const (.int .i64 0)))), none⟩])
     (.cond (.tmp 17)
      (.seq
       (.region [⟨(some 4), (.val (.mov (.const (.int .i64 0)))), none⟩,
         ⟨(some 5), (.val (.mov (.const (.bool false)))), none⟩])
       .ret)
      .skip))
    (.seq
     (.region [⟨(some 18), (.val (.mov (.tmp 6))), none⟩,
       ⟨(some 4), (.val (.mov (.tmp 18))), none⟩,
       ⟨(some 5), (.val (.mov (.const (.bool true)))), none⟩])
     .ret)))),
 [.tmp 4, .tmp 5]⟩
theorem ok27 : cFun Try.prog G Try.f27 = some F27 := by kernel_rfl

/- balustrade/arith.Sub -/
def F28 : IFun :=
 ⟨19,
 (.seq
  (.region [⟨(some 4), (.val (.mov (.const (.int .i64 0)))), none⟩,
    ⟨(some 5), (.val (.mov (.const (.bool false)))), none⟩])
  (.seq
   (.region [⟨(some 7), (.val (.mov (.tmp 0))), none⟩,
     ⟨(some 8), (.val (.mov (.tmp 1))), none⟩,
     ⟨(some 9), (.val (.bin .sub (.tmp 7) (.tmp 8))), none⟩,
     ⟨(some 6), (.val (.mov (.tmp 9))), none⟩])
   (.seq
    (.seq
     (.region [⟨(some 10), (.val (.mov (.tmp 0))), none⟩,
       ⟨(some 11), (.val (.mov (.tmp 1))), none⟩,
       ⟨(some 12), (.val (.bin .xor (.tmp 10) (.tmp 11))), none⟩,
       ⟨(some 13), (.val (.mov (.tmp 0))), none⟩,
       ⟨(some 14), (.val (.mov (.tmp 6))), none⟩,
       ⟨(some 15), (.val (.bin .xor (.tmp 13) (.tmp 14))), none⟩,
       ⟨(some 16), (.val (.bin .and (.tmp 12) (.tmp 15))), none⟩,
       ⟨(some 17), (.val (.bin .lss (.tmp 16) (.const (.int .i64 0)))), none⟩])
     (.cond (.tmp 17)
      (.seq
       (.region [⟨(some 4), (.val (.mov (.const (.int .i64 0)))), none⟩,
         ⟨(some 5), (.val (.mov (.const (.bool false)))), none⟩])
       .ret)
      .skip))
    (.seq
     (.region [⟨(some 18), (.val (.mov (.tmp 6))), none⟩,
       ⟨(some 4), (.val (.mov (.tmp 18))), none⟩,
       ⟨(some 5), (.val (.mov (.const (.bool true)))), none⟩])
     .ret)))),
 [.tmp 4, .tmp 5]⟩
theorem ok28 : cFun Try.prog G Try.f28 = some F28 := by kernel_rfl

/- balustrade/arith.Mul -/
def F29 : IFun :=
 ⟨33,
 (.seq
  (.region [⟨(some 4), (.val (.mov (.const (.int .i64 0)))), none⟩,
    ⟨(some 5), (.val (.mov (.const (.bool false)))), none⟩])
  (.seq
   (.region [⟨(some 10), (.val (.mov (.tmp 0))), none⟩,
     ⟨(some 11), (.call (.const (.func 42 [] [])) [(.tmp 10)]), none⟩,
     ⟨(some 12), (.val (.mov (.tmp 1))), none⟩,
     ⟨(some 13), (.call (.const (.func 42 [] [])) [(.tmp 12)]), none⟩,
     ⟨(some 14), (.call (.const (.func 41 [] [])) [(.tmp 11), (.tmp 13)]), none⟩,
     ⟨(some 9), (.val (.mov (.tmp 14))), none⟩,
     ⟨(some 15), (.val (.extract (.tmp 9) 0)), none⟩,
     ⟨(some 16), (.val (.extract (.tmp 9) 1)), none⟩,
     ⟨(some 6), (.val (.mov (.tmp 15))), none⟩,
     ⟨(some 7), (.val (.mov (.tmp 16))), none⟩])
   (.seq
    (.region [⟨(some 8), (.val (.mov (.const (.int .u64 9223372036854775807)))), none⟩])
    (.seq
     (.seq
      (.region [⟨(some 17), (.val (.mov (.tmp 0))), none⟩,
        ⟨(some 18), (.val (.mov (.tmp 1))), none⟩,
        ⟨(some 19), (.val (.bin .xor (.tmp 17) (.tmp 18))), none⟩,
        ⟨(some 20), (.val (.bin .lss (.tmp 19) (.const (.int .i64 0)))), none⟩])
      (.cond (.tmp 20)
       (.region [⟨(some 21), (.val (.mov (.tmp 8))), none⟩,
         ⟨(some 22), (.val (.bin .add (.tmp 21) (.const (.int .u64 1)))), none⟩,
         ⟨(some 8), (.val (.mov (.tmp 22))), none⟩])
       .skip))
     (.seq
      (.seq
       (.region [⟨(some 23), (.val (.mov (.tmp 6))), none⟩,
         ⟨(some 24), (.val (.eq true (.prim 1) (.tmp 23) (.const (.int .u64 0)))), none⟩,
         ⟨(some 25), (.val (.mov (.tmp 24))), none⟩,
         ⟨(some 26), (.val (.mov (.tmp 7))), (some (25, false))⟩,
         ⟨(some 27), (.val (.mov (.tmp 8))), (some (25, false))⟩,
         ⟨(some 28), (.val (.bin .gtr (.tmp 26) (.tmp 27))), (some (25, false))⟩,
         ⟨(some 29), (.val (.pick (.tmp 25) (.const (.bool true)) (.tmp 28))), none⟩])
       (.cond (.tmp 29)
        (.seq
         (.region [⟨(some 4), (.val (.mov (.const (.int .i64 0)))), none⟩,
           ⟨(some 5), (.val (.mov (.const (.bool false)))), none⟩])
         .ret)
        .skip))
      (.seq
       (.region [⟨(some 30), (.val (.mov (.tmp 0))), none⟩,
         ⟨(some 31), (.val (.mov (.tmp 1))), none⟩,
         ⟨(some 32), (.val (.bin .mul (.tmp 30) (.tmp 31))), none⟩,
         ⟨(some 4), (.val (.mov (.tmp 32))), none⟩,
         ⟨(some 5), (.val (.mov (.const (.bool true)))), none⟩])
       .ret)))))),
 [.tmp 4, .tmp 5]⟩
theorem ok29 : cFun Try.prog G Try.f29 = some F29 := by kernel_rfl

/- balustrade/arith.Div -/
def F30 : IFun :=
 ⟨13,
 (.seq
  (.region [⟨(some 4), (.val (.mov (.const (.int .i64 0)))), none⟩,
    ⟨(some 5), (.val (.mov (.const (.bool false)))), none⟩])
  (.seq
   (.seq
    (.region [⟨(some 6), (.val (.mov (.tmp 0))), none⟩,
      ⟨(some 7), (.val (.mov (.tmp 1))), none⟩,
      ⟨(some 8), (.call (.const (.func 43 [] [])) [(.tmp 6), (.tmp 7)]), none⟩,
      ⟨(some 9), (.val (.un .not (.tmp 8))), none⟩])
    (.cond (.tmp 9)
     (.seq
      (.region [⟨(some 4), (.val (.mov (.const (.int .i64 0)))), none⟩,
        ⟨(some 5), (.val (.mov (.const (.bool false)))), none⟩])
      .ret)
     .skip))
   (.seq
    (.region [⟨(some 10), (.val (.mov (.tmp 0))), none⟩,
      ⟨(some 11), (.val (.mov (.tmp 1))), none⟩,
      ⟨(some 12), (.val (.bin .quo (.tmp 10) (.tmp 11))), none⟩,
      ⟨(some 4), (.val (.mov (.tmp 12))), none⟩,
      ⟨(some 5), (.val (.mov (.const (.bool true)))), none⟩])
    .ret))),
 [.tmp 4, .tmp 5]⟩
theorem ok30 : cFun Try.prog G Try.f30 = some F30 := by kernel_rfl

/- balustrade/arith.Mod -/
def F31 : IFun :=
 ⟨13,
 (.seq
  (.region [⟨(some 4), (.val (.mov (.const (.int .i64 0)))), none⟩,
    ⟨(some 5), (.val (.mov (.const (.bool false)))), none⟩])
  (.seq
   (.seq
    (.region [⟨(some 6), (.val (.mov (.tmp 0))), none⟩,
      ⟨(some 7), (.val (.mov (.tmp 1))), none⟩,
      ⟨(some 8), (.call (.const (.func 43 [] [])) [(.tmp 6), (.tmp 7)]), none⟩,
      ⟨(some 9), (.val (.un .not (.tmp 8))), none⟩])
    (.cond (.tmp 9)
     (.seq
      (.region [⟨(some 4), (.val (.mov (.const (.int .i64 0)))), none⟩,
        ⟨(some 5), (.val (.mov (.const (.bool false)))), none⟩])
      .ret)
     .skip))
   (.seq
    (.region [⟨(some 10), (.val (.mov (.tmp 0))), none⟩,
      ⟨(some 11), (.val (.mov (.tmp 1))), none⟩,
      ⟨(some 12), (.val (.bin .rem (.tmp 10) (.tmp 11))), none⟩,
      ⟨(some 4), (.val (.mov (.tmp 12))), none⟩,
      ⟨(some 5), (.val (.mov (.const (.bool true)))), none⟩])
    .ret))),
 [.tmp 4, .tmp 5]⟩
theorem ok31 : cFun Try.prog G Try.f31 = some F31 := by kernel_rfl

/- balustrade/alu.works$1 -/
def F32 : IFun :=
 ⟨9,
 (.seq
  (.region [⟨(some 4), (.val (.mov (.const (.int .i64 0)))), none⟩,
    ⟨(some 5), (.val (.mov (.const (.bool false)))), none⟩])
  (.seq
   (.region [⟨(some 6), (.val (.mov (.tmp 0))), none⟩,
     ⟨(some 7), (.val (.mov (.tmp 1))), none⟩,
     ⟨(some 8), (.val (.bin .add (.tmp 6) (.tmp 7))), none⟩,
     ⟨(some 4), (.val (.mov (.tmp 8))), none⟩,
     ⟨(some 5), (.val (.mov (.const (.bool true)))), none⟩])
   .ret)),
 [.tmp 4, .tmp 5]⟩
theorem ok32 : cFun Try.prog G Try.f32 = some F32 := by kernel_rfl

/- balustrade/alu.works$2 -/
def F33 : IFun :=
 ⟨9,
 (.seq
  (.region [⟨(some 4), (.val (.mov (.const (.int .i64 0)))), none⟩,
    ⟨(some 5), (.val (.mov (.const (.bool false)))), none⟩])
  (.seq
   (.region [⟨(some 6), (.val (.mov (.tmp 0))), none⟩,
     ⟨(some 7), (.val (.mov (.tmp 1))), none⟩,
     ⟨(some 8), (.val (.bin .sub (.tmp 6) (.tmp 7))), none⟩,
     ⟨(some 4), (.val (.mov (.tmp 8))), none⟩,
     ⟨(some 5), (.val (.mov (.const (.bool true)))), none⟩])
   .ret)),
 [.tmp 4, .tmp 5]⟩
theorem ok33 : cFun Try.prog G Try.f33 = some F33 := by kernel_rfl

/- balustrade/alu.works$3 -/
def F34 : IFun :=
 ⟨9,
 (.seq
  (.region [⟨(some 4), (.val (.mov (.const (.int .i64 0)))), none⟩,
    ⟨(some 5), (.val (.mov (.const (.bool false)))), none⟩])
  (.seq
   (.region [⟨(some 6), (.val (.mov (.tmp 0))), none⟩,
     ⟨(some 7), (.val (.mov (.tmp 1))), none⟩,
     ⟨(some 8), (.val (.bin .mul (.tmp 6) (.tmp 7))), none⟩,
     ⟨(some 4), (.val (.mov (.tmp 8))), none⟩,
     ⟨(some 5), (.val (.mov (.const (.bool true)))), none⟩])
   .ret)),
 [.tmp 4, .tmp 5]⟩
theorem ok34 : cFun Try.prog G Try.f34 = some F34 := by kernel_rfl

/- balustrade/balustraderef01.Add -/
def F35 : IFun :=
 ⟨27,
 (.seq
  (.region [⟨(some 4), (.val (.mov (.const (.int .i64 0)))), none⟩,
    ⟨(some 5), (.val (.mov (.const (.bool false)))), none⟩])
  (.seq
   (.seq
    (.region [⟨(some 6), (.val (.mov (.tmp 0))), none⟩,
      ⟨(some 7), (.val (.bin .geq (.tmp 6) (.const (.int .i64 0)))), none⟩,
      ⟨(some 8), (.val (.mov (.tmp 7))), none⟩,
      ⟨(some 9), (.val (.mov (.tmp 1))), (some (8, true))⟩,
      ⟨(some 10), (.val (.mov (.tmp 0))), (some (8, true))⟩,
      ⟨(some 11), (.val (.bin .sub (.const (.int .i64 9223372036854775807)) (.tmp 10))), (some (8, true))⟩,
      ⟨(some 12), (.val (.bin .gtr (.tmp 9) (.tmp 11))), (some (8, true))⟩,
      ⟨(some 13), (.val (.pick (.tmp 8) (.tmp 12) (.const (.bool false)))), none⟩,
      ⟨(some 14), (.val (.mov (.tmp 13))), none⟩,
      ⟨(some 15), (.val (.mov (.tmp 0))), (some (14, false))⟩,
      ⟨(some 16), (.val (.bin .lss (.tmp 15) (.const (.int .i64 0)))), (some (14, false))⟩,
      ⟨(some 17), (.val (.mov (.tmp 16))), (some (14, false))⟩,
      ⟨(some 18), (.val (.mov (.tmp 1))), (some (17, true))⟩,
      ⟨(some 19), (.val (.mov (.tmp 0))), (some (17, true))⟩,
      ⟨(some 20), (.val (.bin .sub (.const (.int .i64 (-9223372036854775808))) (.tmp 19))), (some (17, true))⟩,
      ⟨(some 21), (.val (.bin .lss (.tmp 18) (.tmp 20))), (some (17, true))⟩,
      ⟨(some 22), (.val (.pick (.tmp 17) (.tmp 21) (.const (.bool false)))), (some (14, false))⟩,
      ⟨(some 23), (.val (.pick (.tmp 14) (.const (.bool true)) (.tmp 22))), none⟩])
    (.cond (.tmp 23)
     (.seq
      (.region [⟨(some 4), (.val (.mov (.const (.int .i64 0)))), none⟩,
        ⟨(some 5), (.val (.mov (.const (.bool false)))), none⟩])
      .ret)
     .skip))
   (.seq
    (.region [⟨(some 24), (.val (.mov (.tmp 0))), none⟩,
      ⟨(some 25), (.val (.mov (.tmp 1))), none⟩,
      ⟨(some 26), (.val (.bin .add (.tmp 24) (.tmp 25))), none⟩,
      ⟨(some 4), (.val (.mov (.tmp 26))), none⟩,
      ⟨(some 5), (.val (.mov (.const (.bool true)))), none⟩])
    .ret))),
 [.tmp 4, .tmp 5]⟩
theorem ok35 : cFun Try.prog G Try.f35 = some F35 := by kernel_rfl

/- balustrade/balustraderef01.Sub -/
def F36 : IFun :=
 ⟨19,
 (.seq
  (.region [⟨(some 4), (.val (.mov (.const (.int .i64 0)))), none⟩,
    ⟨(some 5), (.val (.mov (.const (.bool false)))), none⟩])
  (.seq
   (.seq
    (.region [⟨(some 6), (.val (.mov (.tmp 1))), none⟩,
      ⟨(some 7), (.val (.eq false (.prim 1) (.tmp 6) (.const (.int .i64 (-9223372036854775808))))), none⟩])
    (.cond (.tmp 7)
     (.seq
      (.seq
       (.region [⟨(some 8), (.val (.mov (.tmp 0))), none⟩,
         ⟨(some 9), (.val (.bin .geq (.tmp 8) (.const (.int .i64 0)))), none⟩])
       (.cond (.tmp 9)
        (.seq
         (.region [⟨(some 4), (.val (.mov (.const (.int .i64 0)))), none⟩,
           ⟨(some 5), (.val (.mov (.const (.bool false)))), none⟩])
         .ret)
        .skip))
      (.seq
       (.region [⟨(some 10), (.val (.mov (.tmp 0))), none⟩,
         ⟨(some 11), (.val (.bin .add (.tmp 10) (.const (.int .i64 9223372036854775807)))), none⟩,
         ⟨(some 12), (.val (.bin .add (.tmp 11) (.const (.int .i64 1)))), none⟩,
         ⟨(some 4), (.val (.mov (.tmp 12))), none⟩,
         ⟨(some 5), (.val (.mov (.const (.bool true)))), none⟩])
       .ret))
     .skip))
   (.seq
    (.region [⟨(some 13), (.val (.mov (.tmp 0))), none⟩,
      ⟨(some 14), (.val (.mov (.tmp 1))), none⟩,
      ⟨(some 15), (.val (.un .neg (.tmp 14))), none⟩,
      ⟨(some 16), (.call (.const (.func 35 [] [])) [(.tmp 13), (.tmp 15)]), none⟩,
      ⟨(some 17), (.val (.extract (.tmp 16) 0)), none⟩,
      ⟨(some 18), (.val (.extract (.tmp 16) 1)), none⟩,
      ⟨(some 4), (.val (.mov (.tmp 17))), none⟩,
      ⟨(some 5), (.val (.mov (.tmp 18))), none⟩])
    .ret))),
 [.tmp 4, .tmp 5]⟩
theorem ok36 : cFun Try.prog G Try.f36 = some F36 := by kernel_rfl

/- balustrade/balustraderef01.Mul -/
def F37l0 : ICode :=
 (.seq
  (.seq
   (.region [⟨(some 28), (.val (.mov (.tmp 8))), none⟩,
     ⟨(some 29), (.val (.bin .geq (.tmp 28) (.const (.int .i64 0)))), none⟩])
   (.cond (.tmp 29)
    .skip
    (.exit 0)))
  (.seq
   (.block 1
    (.seq
     (.region [⟨(some 33), (.val (.mov (.tmp 6))), none⟩,
       ⟨(some 34), (.val (.mov (.tmp 6))), none⟩,
       ⟨(some 35), (.call (.const (.func 35 [] [])) [(.tmp 33), (.tmp 34)]), none⟩,
       ⟨(some 32), (.val (.mov (.tmp 35))), none⟩,
       ⟨(some 36), (.val (.extract (.tmp 32) 0)), none⟩,
       ⟨(some 37), (.val (.extract (.tmp 32) 1)), none⟩,
       ⟨(some 6), (.val (.mov (.tmp 36))), none⟩,
       ⟨(some 7), (.val (.mov (.tmp 37))), none⟩])
     (.seq
      (.seq
       (.region [⟨(some 38), (.val (.mov (.tmp 7))), none⟩,
         ⟨(some 39), (.val (.un .not (.tmp 38))), none⟩])
       (.cond (.tmp 39)
        (.seq
         (.region [⟨(some 4), (.val (.mov (.const (.int .i64 0)))), none⟩,
           ⟨(some 5), (.val (.mov (.const (.bool false)))), none⟩])
         .ret)
        .skip))
      (.seq
       (.region [⟨(some 40), (.val (.mov (.tmp 1))), none⟩,
         ⟨(some 41), (.val (.mov (.tmp 8))), none⟩,
         ⟨(some 42), (.val (.bin .shr (.tmp 40) (.tmp 41))), none⟩,
         ⟨(some 43), (.val (.bin .and (.tmp 42) (.const (.int .i64 1)))), none⟩,
         ⟨(some 44), (.val (.eq false (.prim 1) (.tmp 43) (.const (.int .i64 1)))), none⟩])
       (.cond (.tmp 44)
        (.seq
         (.region [⟨(some 46), (.val (.mov (.tmp 6))), none⟩,
           ⟨(some 47), (.val (.mov (.tmp 0))), none⟩,
           ⟨(some 48), (.call (.const (.func 35 [] [])) [(.tmp 46), (.tmp 47)]), none⟩,
           ⟨(some 45), (.val (.mov (.tmp 48))), none⟩,
           ⟨(some 49), (.val (.extract (.tmp 45) 0)), none⟩,
           ⟨(some 50), (.val (.extract (.tmp 45) 1)), none⟩,
           ⟨(some 6), (.val (.mov (.tmp 49))), none⟩,
           ⟨(some 7), (.val (.mov (.tmp 50))), none⟩])
         (.seq
          (.region [⟨(some 51), (.val (.mov (.tmp 7))), none⟩,
            ⟨(some 52), (.val (.un .not (.tmp 51))), none⟩])
          (.cond (.tmp 52)
           (.seq
            (.region [⟨(some 4), (.val (.mov (.const (.int .i64 0)))), none⟩,
              ⟨(some 5), (.val (.mov (.const (.bool false)))), none⟩])
            .ret)
           .skip)))
        .skip)))))
   (.region [⟨(some 30), (.val (.mov (.tmp 8))), none⟩,
     ⟨(some 31), (.val (.bin .sub (.tmp 30) (.const (.int .i64 1)))), none⟩,
     ⟨(some 8), (.val (.mov (.tmp 31))), none⟩])))
def F37 : IFun :=
 ⟨54,
 (.seq
  (.region [⟨(some 4), (.val (.mov (.const (.int .i64 0)))), none⟩,
    ⟨(some 5), (.val (.mov (.const (.bool false)))), none⟩])
  (.seq
   (.seq
    (.region [⟨(some 9), (.val (.mov (.tmp 0))), none⟩,
      ⟨(some 10), (.val (.eq false (.prim 1) (.tmp 9) (.const (.int .i64 0)))), none⟩,
      ⟨(some 11), (.val (.mov (.tmp 10))), none⟩,
      ⟨(some 12), (.val (.mov (.tmp 1))), (some (11, false))⟩,
      ⟨(some 13), (.val (.eq false (.prim 1) (.tmp 12) (.const (.int .i64 0)))), (some (11, false))⟩,
      ⟨(some 14), (.val (.pick (.tmp 11) (.const (.bool true)) (.tmp 13))), none⟩])
    (.cond (.tmp 14)
     (.seq
      (.region [⟨(some 4), (.val (.mov (.const (.int .i64 0)))), none⟩,
        ⟨(some 5), (.val (.mov (.const (.bool true)))), none⟩])
      .ret)
     .skip))
   (.seq
    (.seq
     (.region [⟨(some 15), (.val (.mov (.tmp 1))), none⟩,
       ⟨(some 16), (.val (.eq false (.prim 1) (.tmp 15) (.const (.int .i64 (-9223372036854775808))))), none⟩])
     (.cond (.tmp 16)
      (.seq
       (.seq
        (.region [⟨(some 17), (.val (.mov (.tmp 0))), none⟩,
          ⟨(some 18), (.val (.eq false (.prim 1) (.tmp 17) (.const (.int .i64 1)))), none⟩])
        (.cond (.tmp 18)
         (.seq
          (.region [⟨(some 19), (.val (.mov (.tmp 1))), none⟩,
            ⟨(some 4), (.val (.mov (.tmp 19))), none⟩,
            ⟨(some 5), (.val (.mov (.const (.bool true)))), none⟩])
          .ret)
         .skip))
       (.seq
        (.region [⟨(some 4), (.val (.mov (.const (.int .i64 0)))), none⟩,
          ⟨(some 5), (.val (.mov (.const (.bool false)))), none⟩])
        .ret))
      .skip))
    (.seq
     (.seq
      (.region [⟨(some 20), (.val (.mov (.tmp 1))), none⟩,
        ⟨(some 21), (.val (.bin .lss (.tmp 20) (.const (.int .i64 0)))), none⟩])
      (.cond (.tmp 21)
       (.seq
        (.seq
         (.region [⟨(some 22), (.val (.mov (.tmp 0))), none⟩,
           ⟨(some 23), (.val (.eq false (.prim 1) (.tmp 22) (.const (.int .i64 (-9223372036854775808))))), none⟩])
         (.cond (.tmp 23)
          (.seq
           (.region [⟨(some 4), (.val (.mov (.const (.int .i64 0)))), none⟩,
             ⟨(some 5), (.val (.mov (.const (.bool false)))), none⟩])
           .ret)
          .skip))
        (.seq
         (.region [⟨(some 24), (.val (.mov (.tmp 0))), none⟩,
           ⟨(some 25), (.val (.un .neg (.tmp 24))), none⟩,
           ⟨(some 0), (.val (.mov (.tmp 25))), none⟩])
         (.region [⟨(some 26), (.val (.mov (.tmp 1))), none⟩,
           ⟨(some 27), (.val (.un .neg (.tmp 26))), none⟩,
           ⟨(some 1), (.val (.mov (.tmp 27))), none⟩])))
       .skip))
     (.seq
      (.region [⟨(some 6), (.val (.mov (.const (.int .i64 0)))), none⟩,
        ⟨(some 7), (.val (.mov (.const (.bool true)))), none⟩])
      (.seq
       (.seq
        (.region [⟨(some 8), (.val (.mov (.const (.int .i64 62)))), none⟩])
        (.block 0
         (.loop F37l0)))
       (.seq
        (.region [⟨(some 53), (.val (.mov (.tmp 6))), none⟩,
          ⟨(some 4), (.val (.mov (.tmp 53))), none⟩,
          ⟨(some 5), (.val (.mov (.const (.bool true)))), none⟩])
        .ret))))))),
 [.tmp 4, .tmp 5]⟩
theorem ok37 : cFun Try.prog G Try.f37 = some F37 := by kernel_rfl

/- balustrade/balustraderef01.Div -/
def F38l0 : ICode :=
 (.seq
  (.seq
   (.region [⟨(some 24), (.val (.mov (.tmp 9))), none⟩,
     ⟨(some 25), (.val (.bin .geq (.tmp 24) (.const (.int .i64 0)))), none⟩])
   (.cond (.tmp 25)
    .skip
    (.exit 0)))
  (.seq
   (.block 1
    (.seq
     (.region [⟨(some 28), (.val (.mov (.tmp 7))), none⟩,
       ⟨(some 29), (.val (.mov (.tmp 9))), none⟩,
       ⟨(some 30), (.val (.bin .shr (.const (.int .i64 (-9223372036854775807))) (.tmp 29))), none⟩,
       ⟨(some 31), (.val (.bin .geq (.tmp 28) (.tmp 30))), none⟩,
       ⟨(some 32), (.val (.mov (.tmp 31))), none⟩,
       ⟨(some 33), (.val (.mov (.tmp 6))), (some (32, true))⟩,
       ⟨(some 34), (.val (.mov (.tmp 7))), (some (32, true))⟩,
       ⟨(some 35), (.val (.mov (.tmp 9))), (some (32, true))⟩,
       ⟨(some 36), (.val (.bin .shl (.tmp 34) (.tmp 35))), (some (32, true))⟩,
       ⟨(some 37), (.val (.bin .leq (.tmp 33) (.tmp 36))), (some (32, true))⟩,
       ⟨(some 38), (.val (.pick (.tmp 32) (.tmp 37) (.const (.bool false)))), none⟩])
     (.cond (.tmp 38)
      (.seq
       (.region [⟨(some 39), (.val (.mov (.tmp 6))), none⟩,
         ⟨(some 40), (.val (.mov (.tmp 7))), none⟩,
         ⟨(some 41), (.val (.mov (.tmp 9))), none⟩,
         ⟨(some 42), (.val (.bin .shl (.tmp 40) (.tmp 41))), none⟩,
         ⟨(some 43), (.val (.bin .sub (.tmp 39) (.tmp 42))), none⟩,
         ⟨(some 6), (.val (.mov (.tmp 43))), none⟩])
       (.region [⟨(some 44), (.val (.mov (.tmp 8))), none⟩,
         ⟨(some 45), (.val (.mov (.tmp 9))), none⟩,
         ⟨(some 46), (.val (.bin .shl (.const (.int .i64 1)) (.tmp 45))), none⟩,
         ⟨(some 47), (.val (.bin .sub (.tmp 44) (.tmp 46))), none⟩,
         ⟨(some 8), (.val (.mov (.tmp 47))), none⟩]))
      .skip)))
   (.region [⟨(some 26), (.val (.mov (.tmp 9))), none⟩,
     ⟨(some 27), (.val (.bin .sub (.tmp 26) (.const (.int .i64 1)))), none⟩,
     ⟨(some 9), (.val (.mov (.tmp 27))), none⟩])))
def F38 : IFun :=
 ⟨64,
 (.seq
  (.region [⟨(some 4), (.val (.mov (.const (.int .i64 0)))), none⟩,
    ⟨(some 5), (.val (.mov (.const (.bool false)))), none⟩])
  (.seq
   (.seq
    (.region [⟨(some 10), (.val (.mov (.tmp 0))), none⟩,
      ⟨(some 11), (.val (.mov (.tmp 1))), none⟩,
      ⟨(some 12), (.call (.const (.func 44 [] [])) [(.tmp 10), (.tmp 11)]), none⟩,
      ⟨(some 13), (.val (.un .not (.tmp 12))), none⟩])
    (.cond (.tmp 13)
     (.seq
      (.region [⟨(some 4), (.val (.mov (.const (.int .i64 0)))), none⟩,
        ⟨(some 5), (.val (.mov (.const (.bool false)))), none⟩])
      .ret)
     .skip))
   (.seq
    (.region [⟨(some 14), (.val (.mov (.tmp 0))), none⟩,
      ⟨(some 15), (.val (.mov (.tmp 1))), none⟩,
      ⟨(some 6), (.val (.mov (.tmp 14))), none⟩,
      ⟨(some 7), (.val (.mov (.tmp 15))), none⟩])
    (.seq
     (.seq
      (.region [⟨(some 16), (.val (.mov (.tmp 6))), none⟩,
        ⟨(some 17), (.val (.bin .gtr (.tmp 16) (.const (.int .i64 0)))), none⟩])
      (.cond (.tmp 17)
       (.region [⟨(some 18), (.val (.mov (.tmp 6))), none⟩,
         ⟨(some 19), (.val (.un .neg (.tmp 18))), none⟩,
         ⟨(some 6), (.val (.mov (.tmp 19))), none⟩])
       .skip))
     (.seq
      (.seq
       (.region [⟨(some 20), (.val (.mov (.tmp 7))), none⟩,
         ⟨(some 21), (.val (.bin .gtr (.tmp 20) (.const (.int .i64 0)))), none⟩])
       (.cond (.tmp 21)
        (.region [⟨(some 22), (.val (.mov (.tmp 7))), none⟩,
          ⟨(some 23), (.val (.un .neg (.tmp 22))), none⟩,
          ⟨(some 7), (.val (.mov (.tmp 23))), none⟩])
        .skip))
      (.seq
       (.region [⟨(some 8), (.val (.mov (.const (.int .i64 0)))), none⟩])
       (.seq
        (.seq
         (.region [⟨(some 9), (.val (.mov (.const (.int .i64 62)))), none⟩])
         (.block 0
          (.loop F38l0)))
        (.seq
         (.seq
          (.region [⟨(some 48), (.val (.mov (.tmp 6))), none⟩,
            ⟨(some 49), (.val (.mov (.tmp 7))), none⟩,
            ⟨(some 50), (.val (.bin .leq (.tmp 48) (.tmp 49))), none⟩])
          (.cond (.tmp 50)
           (.seq
            (.region [⟨(some 51), (.val (.mov (.tmp 6))), none⟩,
              ⟨(some 52), (.val (.mov (.tmp 7))), none⟩,
              ⟨(some 53), (.val (.bin .sub (.tmp 51) (.tmp 52))), none⟩,
              ⟨(some 6), (.val (.mov (.tmp 53))), none⟩])
            (.region [⟨(some 54), (.val (.mov (.tmp 8))), none⟩,
              ⟨(some 55), (.val (.bin .sub (.tmp 54) (.const (.int .i64 1)))), none⟩,
              ⟨(some 8), (.val (.mov (.tmp 55))), none⟩]))
           .skip))
         (.seq
          (.seq
           (.region [⟨(some 56), (.val (.mov (.tmp 0))), none⟩,
             ⟨(some 57), (.val (.bin .lss (.tmp 56) (.const (.int .i64 0)))), none⟩,
             ⟨(some 58), (.val (.mov (.tmp 1))), none⟩,
             ⟨(some 59), (.val (.bin .lss (.tmp 58) (.const (.int .i64 0)))), none⟩,
             ⟨(some 60), (.val (.eq false (.prim 0) (.tmp 57) (.tmp 59))), none⟩])
           (.cond (.tmp 60)
            (.seq
             (.region [⟨(some 61), (.val (.mov (.tmp 8))), none⟩,
               ⟨(some 62), (.val (.un .neg (.tmp 61))), none⟩,
               ⟨(some 4), (.val (.mov (.tmp 62))), none⟩,
               ⟨(some 5), (.val (.mov (.const (.bool true)))), none⟩])
             .ret)
            .skip))
          (.seq
           (.region [⟨(some 63), (.val (.mov (.tmp 8))), none⟩,
             ⟨(some 4), (.val (.mov (.tmp 63))), none⟩,
             ⟨(some 5), (.val (.mov (.const (.bool true)))), none⟩])
           .ret)))))))))),
 [.tmp 4, .tmp 5]⟩
theorem ok38 : cFun Try.prog G Try.f38 = some F38 := by kernel_rfl

/- balustrade/balustraderef01.Mod -/
def F39 : IFun :=
 ⟨21,
 (.seq
  (.region [⟨(some 4), (.val (.mov (.const (.int .i64 0)))), none⟩,
    ⟨(some 5), (.val (.mov (.const (.bool false)))), none⟩])
  (.seq
   (.region [⟨(some 9), (.val (.mov (.tmp 0))), none⟩,
     ⟨(some 10), (.val (.mov (.tmp 1))), none⟩,
     ⟨(some 11), (.call (.const (.func 38 [] [])) [(.tmp 9), (.tmp 10)]), none⟩,
     ⟨(some 8), (.val (.mov (.tmp 11))), none⟩,
     ⟨(some 12), (.val (.extract (.tmp 8) 0)), none⟩,
     ⟨(some 13), (.val (.extract (.tmp 8) 1)), none⟩,
     ⟨(some 6), (.val (.mov (.tmp 12))), none⟩,
     ⟨(some 7), (.val (.mov (.tmp 13))), none⟩])
   (.seq
    (.seq
     (.region [⟨(some 14), (.val (.mov (.tmp 7))), none⟩,
       ⟨(some 15), (.val (.un .not (.tmp 14))), none⟩])
     (.cond (.tmp 15)
      (.seq
       (.region [⟨(some 4), (.val (.mov (.const (.int .i64 0)))), none⟩,
         ⟨(some 5), (.val (.mov (.const (.bool false)))), none⟩])
       .ret)
      .skip))
    (.seq
     (.region [⟨(some 16), (.val (.mov (.tmp 0))), none⟩,
       ⟨(some 17), (.val (.mov (.tmp 1))), none⟩,
       ⟨(some 18), (.val (.mov (.tmp 6))), none⟩,
       ⟨(some 19), (.val (.bin .mul (.tmp 17) (.tmp 18))), none⟩,
       ⟨(some 20), (.val (.bin .sub (.tmp 16) (.tmp 19))), none⟩,
       ⟨(some 4), (.val (.mov (.tmp 20))), none⟩,
       ⟨(some 5), (.val (.mov (.const (.bool true)))), none⟩])
     .ret)))),
 [.tmp 4, .tmp 5]⟩
theorem ok39 : cFun Try.prog G Try.f39 = some F39 := by kernel_rfl

/- cmp.isNaN[int] -/
def F40 : IFun :=
 ⟨6,
 (.seq
  (.region [⟨(some 2), (.val (.mov (.const (.bool false)))), none⟩])
  (.seq
   (.region [⟨(some 3), (.val (.mov (.tmp 0))), none⟩,
     ⟨(some 4), (.val (.mov (.tmp 0))), none⟩,
     ⟨(some 5), (.val (.eq true (.prim 1) (.tmp 3) (.tmp 4))), none⟩,
     ⟨(some 2), (.val (.mov (.tmp 5))), none⟩])
   .ret)),
 [.tmp 2]⟩
theorem ok40 : cFun Try.prog G Try.f40 = some F40 := by kernel_rfl

end Go.Proofs.Ytcgplbakdflkiaa.Ev
