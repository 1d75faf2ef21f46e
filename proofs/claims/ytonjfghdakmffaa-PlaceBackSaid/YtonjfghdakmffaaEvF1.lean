/- The evaluator's code of the given functions, printed by program (EvPut); part 1. -/
import Derived.Test.YtonjfghdakmffaaEvF0
namespace Go.Proofs.Ytonjfghdakmffaa.Ev
open Go

/- internal/stringslite.Index -/
def F24l0 : ICode :=
 (.seq
  (.seq
   (.region [⟨(some 57), (.val (.mov (.tmp 8))), none⟩,
     ⟨(some 58), (.val (.mov (.tmp 9))), none⟩,
     ⟨(some 59), (.val (.bin .lss (.tmp 57) (.tmp 58))), none⟩])
   (.cond (.tmp 59)
    .skip
    (.exit 1)))
  (.block 2
   (.seq
    (.seq
     (.region [⟨(some 60), (.val (.mov (.tmp 0))), none⟩,
       ⟨(some 61), (.val (.mov (.tmp 8))), none⟩,
       ⟨(some 62), (.val (.idxstr (.tmp 60) (.tmp 61))), none⟩,
       ⟨(some 63), (.val (.mov (.tmp 6))), none⟩,
       ⟨(some 64), (.val (.eq true (.prim 1) (.tmp 62) (.tmp 63))), none⟩])
     (.cond (.tmp 64)
      (.seq
       (.region [⟨(some 65), (.val (.mov (.tmp 0))), none⟩,
         ⟨(some 66), (.val (.mov (.tmp 8))), none⟩,
         ⟨(some 67), (.val (.bin .add (.tmp 66) (.const (.int .i64 1)))), none⟩,
         ⟨(some 68), (.val (.mov (.tmp 9))), none⟩,
         ⟨(some 69), (.val (.slstr (.tmp 65) (some (.tmp 67)) (some (.tmp 68)))), none⟩,
         ⟨(some 70), (.val (.mov (.tmp 6))), none⟩,
         ⟨(some 71), (.call (.const (.func 22 [] [])) [(.tmp 69), (.tmp 70)]), none⟩,
         ⟨(some 11), (.val (.mov (.tmp 71))), none⟩])
       (.seq
        (.seq
         (.region [⟨(some 72), (.val (.mov (.tmp 11))), none⟩,
           ⟨(some 73), (.val (.bin .lss (.tmp 72) (.const (.int .i64 0)))), none⟩])
         (.cond (.tmp 73)
          (.seq
           (.region [⟨(some 4), (.val (.mov (.const (.int .i64 (-1))))), none⟩])
           .ret)
          .skip))
        (.region [⟨(some 74), (.val (.mov (.tmp 8))), none⟩,
          ⟨(some 75), (.val (.mov (.tmp 11))), none⟩,
          ⟨(some 76), (.val (.bin .add (.tmp 75) (.const (.int .i64 1)))), none⟩,
          ⟨(some 77), (.val (.bin .add (.tmp 74) (.tmp 76))), none⟩,
          ⟨(some 8), (.val (.mov (.tmp 77))), none⟩])))
      .skip))
    (.seq
     (.seq
      (.region [⟨(some 78), (.val (.mov (.tmp 0))), none⟩,
        ⟨(some 79), (.val (.mov (.tmp 8))), none⟩,
        ⟨(some 80), (.val (.bin .add (.tmp 79) (.const (.int .i64 1)))), none⟩,
        ⟨(some 81), (.val (.idxstr (.tmp 78) (.tmp 80))), none⟩,
        ⟨(some 82), (.val (.mov (.tmp 7))), none⟩,
        ⟨(some 83), (.val (.eq false (.prim 1) (.tmp 81) (.tmp 82))), none⟩,
        ⟨(some 84), (.val (.mov (.tmp 83))), none⟩,
        ⟨(some 85), (.val (.mov (.tmp 0))), (some (84, true))⟩,
        ⟨(some 86), (.val (.mov (.tmp 8))), (some (84, true))⟩,
        ⟨(some 87), (.val (.mov (.tmp 8))), (some (84, true))⟩,
        ⟨(some 88), (.val (.mov (.tmp 5))), (some (84, true))⟩,
        ⟨(some 89), (.val (.bin .add (.tmp 87) (.tmp 88))), (some (84, true))⟩,
        ⟨(some 90), (.val (.slstr (.tmp 85) (some (.tmp 86)) (some (.tmp 89)))), (some (84, true))⟩,
        ⟨(some 91), (.val (.mov (.tmp 1))), (some (84, true))⟩,
        ⟨(some 92), (.val (.eq false (.prim 2) (.tmp 90) (.tmp 91))), (some (84, true))⟩,
        ⟨(some 93), (.val (.pick (.tmp 84) (.tmp 92) (.const (.bool false)))), none⟩])
      (.cond (.tmp 93)
       (.seq
        (.region [⟨(some 94), (.val (.mov (.tmp 8))), none⟩,
          ⟨(some 4), (.val (.mov (.tmp 94))), none⟩])
        .ret)
       .skip))
     (.seq
      (.region [⟨(some 95), (.val (.mov (.tmp 8))), none⟩,
        ⟨(some 96), (.val (.bin .add (.tmp 95) (.const (.int .i64 1)))), none⟩,
        ⟨(some 8), (.val (.mov (.tmp 96))), none⟩])
      (.seq
       (.region [⟨(some 97), (.val (.mov (.tmp 10))), none⟩,
         ⟨(some 98), (.val (.bin .add (.tmp 97) (.const (.int .i64 1)))), none⟩,
         ⟨(some 10), (.val (.mov (.tmp 98))), none⟩])
       (.seq
        (.region [⟨(some 99), (.val (.mov (.tmp 5))), none⟩,
          ⟨(some 100), (.val (.load none (.const (.ptr 0 0)))), none⟩,
          ⟨(some 101), (.val (.bin .leq (.tmp 99) (.tmp 100))), none⟩,
          ⟨(some 102), (.val (.mov (.tmp 101))), none⟩,
          ⟨(some 103), (.val (.mov (.tmp 10))), (some (102, true))⟩,
          ⟨(some 104), (.val (.mov (.tmp 8))), (some (102, true))⟩,
          ⟨(some 105), (.call (.const (.func 27 [] [])) [(.tmp 104)]), (some (102, true))⟩,
          ⟨(some 106), (.val (.bin .gtr (.tmp 103) (.tmp 105))), (some (102, true))⟩,
          ⟨(some 107), (.val (.pick (.tmp 102) (.tmp 106) (.const (.bool false)))), none⟩])
        (.cond (.tmp 107)
         (.seq
          (.region [⟨(some 108), (.val (.mov (.tmp 0))), none⟩,
            ⟨(some 109), (.val (.mov (.tmp 8))), none⟩,
            ⟨(some 110), (.val (.slstr (.tmp 108) (some (.tmp 109)) none)), none⟩,
            ⟨(some 111), (.val (.mov (.tmp 1))), none⟩,
            ⟨(some 112), (.call (.const (.func 26 [] [])) [(.tmp 110), (.tmp 111)]), none⟩,
            ⟨(some 12), (.val (.mov (.tmp 112))), none⟩])
          (.seq
           (.seq
            (.region [⟨(some 113), (.val (.mov (.tmp 12))), none⟩,
              ⟨(some 114), (.val (.bin .geq (.tmp 113) (.const (.int .i64 0)))), none⟩])
            (.cond (.tmp 114)
             (.seq
              (.region [⟨(some 115), (.val (.mov (.tmp 12))), none⟩,
                ⟨(some 116), (.val (.mov (.tmp 8))), none⟩,
                ⟨(some 117), (.val (.bin .add (.tmp 115) (.tmp 116))), none⟩,
                ⟨(some 4), (.val (.mov (.tmp 117))), none⟩])
              .ret)
             .skip))
           (.seq
            (.region [⟨(some 4), (.val (.mov (.const (.int .i64 (-1))))), none⟩])
            .ret)))
         (.seq
          (.region [⟨(some 118), (.val (.mov (.tmp 5))), none⟩,
            ⟨(some 119), (.val (.load none (.const (.ptr 0 0)))), none⟩,
            ⟨(some 120), (.val (.bin .gtr (.tmp 118) (.tmp 119))), none⟩,
            ⟨(some 121), (.val (.mov (.tmp 120))), none⟩,
            ⟨(some 122), (.val (.mov (.tmp 10))), (some (121, true))⟩,
            ⟨(some 123), (.val (.mov (.tmp 8))), (some (121, true))⟩,
            ⟨(some 124), (.val (.bin .shr (.tmp 123) (.const (.int .u64 4)))), (some (121, true))⟩,
            ⟨(some 125), (.val (.bin .add (.const (.int .i64 4)) (.tmp 124))), (some (121, true))⟩,
            ⟨(some 126), (.val (.bin .geq (.tmp 122) (.tmp 125))), (some (121, true))⟩,
            ⟨(some 127), (.val (.pick (.tmp 121) (.tmp 126) (.const (.bool false)))), none⟩,
            ⟨(some 128), (.val (.mov (.tmp 127))), none⟩,
            ⟨(some 129), (.val (.mov (.tmp 8))), (some (128, true))⟩,
            ⟨(some 130), (.val (.mov (.tmp 9))), (some (128, true))⟩,
            ⟨(some 131), (.val (.bin .lss (.tmp 129) (.tmp 130))), (some (128, true))⟩,
            ⟨(some 132), (.val (.pick (.tmp 128) (.tmp 131) (.const (.bool false)))), none⟩])
          (.cond (.tmp 132)
           (.seq
            (.region [⟨(some 133), (.val (.mov (.tmp 0))), none⟩,
              ⟨(some 134), (.val (.mov (.tmp 8))), none⟩,
              ⟨(some 135), (.val (.slstr (.tmp 133) (some (.tmp 134)) none)), none⟩,
              ⟨(some 136), (.val (.mov (.tmp 1))), none⟩,
              ⟨(some 137), (.call (.const (.func 28 [] [])) [(.tmp 135), (.tmp 136)]), none⟩,
              ⟨(some 13), (.val (.mov (.tmp 137))), none⟩])
            (.seq
             (.seq
              (.region [⟨(some 138), (.val (.mov (.tmp 13))), none⟩,
                ⟨(some 139), (.val (.bin .lss (.tmp 138) (.const (.int .i64 0)))), none⟩])
              (.cond (.tmp 139)
               (.seq
                (.region [⟨(some 4), (.val (.mov (.const (.int .i64 (-1))))), none⟩])
                .ret)
               .skip))
             (.seq
              (.region [⟨(some 140), (.val (.mov (.tmp 8))), none⟩,
                ⟨(some 141), (.val (.mov (.tmp 13))), none⟩,
                ⟨(some 142), (.val (.bin .add (.tmp 140) (.tmp 141))), none⟩,
                ⟨(some 4), (.val (.mov (.tmp 142))), none⟩])
              .ret)))
           .skip))))))))))
def F24 : IFun :=
 ⟨143,
 (.seq
  (.region [⟨(some 4), (.val (.mov (.const (.int .i64 0)))), none⟩])
  (.seq
   (.region [⟨(some 14), (.val (.mov (.tmp 1))), none⟩,
     ⟨(some 15), (.val (.lenstr (.tmp 14))), none⟩,
     ⟨(some 5), (.val (.mov (.tmp 15))), none⟩])
   (.seq
    (.block 0
     (.seq
      (.region [⟨(some 17), (.val (.mov (.tmp 5))), none⟩,
        ⟨(some 18), (.val (.eq false (.prim 1) (.tmp 17) (.const (.int .i64 0)))), none⟩,
        ⟨(some 19), (.val (.mov (.tmp 18))), none⟩,
        ⟨(some 20), (.val (.mov (.tmp 1))), (some (19, false))⟩,
        ⟨(some 21), (.val (.mov (.tmp 0))), (some (19, false))⟩,
        ⟨(some 22), (.val (.eq false (.prim 2) (.tmp 20) (.tmp 21))), (some (19, false))⟩,
        ⟨(some 23), (.val (.pick (.tmp 19) (.const (.bool true)) (.tmp 22))), none⟩,
        ⟨(some 16), (.val (.mov (.tmp 23))), none⟩])
      (.cond (.tmp 16)
       (.seq
        (.region [⟨(some 4), (.val (.mov (.const (.int .i64 0)))), none⟩])
        .ret)
       (.seq
        (.region [⟨(some 25), (.val (.mov (.tmp 5))), none⟩,
          ⟨(some 26), (.val (.eq false (.prim 1) (.tmp 25) (.const (.int .i64 1)))), none⟩,
          ⟨(some 24), (.val (.mov (.tmp 26))), none⟩])
        (.cond (.tmp 24)
         (.seq
          (.region [⟨(some 27), (.val (.mov (.tmp 0))), none⟩,
            ⟨(some 28), (.val (.mov (.tmp 1))), none⟩,
            ⟨(some 29), (.val (.idxstr (.tmp 28) (.const (.int .i64 0)))), none⟩,
            ⟨(some 30), (.call (.const (.func 22 [] [])) [(.tmp 27), (.tmp 29)]), none⟩,
            ⟨(some 4), (.val (.mov (.tmp 30))), none⟩])
          .ret)
         (.seq
          (.region [⟨(some 32), (.val (.mov (.tmp 5))), none⟩,
            ⟨(some 33), (.val (.mov (.tmp 0))), none⟩,
            ⟨(some 34), (.val (.lenstr (.tmp 33))), none⟩,
            ⟨(some 35), (.val (.bin .geq (.tmp 32) (.tmp 34))), none⟩,
            ⟨(some 31), (.val (.mov (.tmp 35))), none⟩])
          (.cond (.tmp 31)
           (.seq
            (.region [⟨(some 4), (.val (.mov (.const (.int .i64 (-1))))), none⟩])
            .ret)
           (.seq
            (.region [⟨(some 37), (.val (.mov (.tmp 5))), none⟩,
              ⟨(some 38), (.val (.load none (.const (.ptr 0 0)))), none⟩,
              ⟨(some 39), (.val (.bin .leq (.tmp 37) (.tmp 38))), none⟩,
              ⟨(some 40), (.val (.mov (.tmp 39))), none⟩,
              ⟨(some 41), (.val (.mov (.tmp 0))), (some (40, true))⟩,
              ⟨(some 42), (.val (.lenstr (.tmp 41))), (some (40, true))⟩,
              ⟨(some 43), (.val (.bin .leq (.tmp 42) (.const (.int .i64 64)))), (some (40, true))⟩,
              ⟨(some 44), (.val (.pick (.tmp 40) (.tmp 43) (.const (.bool false)))), none⟩,
              ⟨(some 36), (.val (.mov (.tmp 44))), none⟩])
            (.cond (.tmp 36)
             (.seq
              (.region [⟨(some 45), (.val (.mov (.tmp 0))), none⟩,
                ⟨(some 46), (.val (.mov (.tmp 1))), none⟩,
                ⟨(some 47), (.call (.const (.func 26 [] [])) [(.tmp 45), (.tmp 46)]), none⟩,
                ⟨(some 4), (.val (.mov (.tmp 47))), none⟩])
              .ret)
             .skip)))))))))
    (.seq
     (.region [⟨(some 48), (.val (.mov (.tmp 1))), none⟩,
       ⟨(some 49), (.val (.idxstr (.tmp 48) (.const (.int .i64 0)))), none⟩,
       ⟨(some 6), (.val (.mov (.tmp 49))), none⟩])
     (.seq
      (.region [⟨(some 50), (.val (.mov (.tmp 1))), none⟩,
        ⟨(some 51), (.val (.idxstr (.tmp 50) (.const (.int .i64 1)))), none⟩,
        ⟨(some 7), (.val (.mov (.tmp 51))), none⟩])
      (.seq
       (.region [⟨(some 8), (.val (.mov (.const (.int .i64 0)))), none⟩])
       (.seq
        (.region [⟨(some 52), (.val (.mov (.tmp 0))), none⟩,
          ⟨(some 53), (.val (.lenstr (.tmp 52))), none⟩,
          ⟨(some 54), (.val (.mov (.tmp 5))), none⟩,
          ⟨(some 55), (.val (.bin .sub (.tmp 53) (.tmp 54))), none⟩,
          ⟨(some 56), (.val (.bin .add (.tmp 55) (.const (.int .i64 1)))), none⟩,
          ⟨(some 9), (.val (.mov (.tmp 56))), none⟩])
        (.seq
         (.region [⟨(some 10), (.val (.mov (.const (.int .i64 0)))), none⟩])
         (.seq
          (.block 1
           (.loop F24l0))
          (.seq
           (.region [⟨(some 4), (.val (.mov (.const (.int .i64 (-1))))), none⟩])
           .ret)))))))))),
 [.tmp 4]⟩
theorem ok24 : cFun Try.prog G Try.f24 = some F24 := by kernel_rfl

/- internal/bytealg.Cutover -/
def F27 : IFun :=
 ⟨6,
 (.seq
  (.region [⟨(some 2), (.val (.mov (.const (.int .i64 0)))), none⟩])
  (.seq
   (.region [⟨(some 3), (.val (.mov (.tmp 0))), none⟩,
     ⟨(some 4), (.val (.bin .add (.tmp 3) (.const (.int .i64 16)))), none⟩,
     ⟨(some 5), (.val (.bin .quo (.tmp 4) (.const (.int .i64 8)))), none⟩,
     ⟨(some 2), (.val (.mov (.tmp 5))), none⟩])
   .ret)),
 [.tmp 2]⟩
theorem ok27 : cFun Try.prog G Try.f27 = some F27 := by kernel_rfl

/- internal/bytealg.IndexRabinKarp[string] -/
def F28l0 : ICode :=
 (.seq
  (.seq
   (.region [⟨(some 18), (.val (.mov (.tmp 9))), none⟩,
     ⟨(some 19), (.val (.mov (.tmp 7))), none⟩,
     ⟨(some 20), (.val (.bin .lss (.tmp 18) (.tmp 19))), none⟩])
   (.cond (.tmp 20)
    .skip
    (.exit 0)))
  (.seq
   (.block 1
    (.region [⟨(some 23), (.val (.mov (.tmp 8))), none⟩,
      ⟨(some 24), (.val (.bin .mul (.tmp 23) (.const (.int .u32 16777619)))), none⟩,
      ⟨(some 25), (.val (.mov (.tmp 0))), none⟩,
      ⟨(some 26), (.val (.mov (.tmp 9))), none⟩,
      ⟨(some 27), (.val (.idxstr (.tmp 25) (.tmp 26))), none⟩,
      ⟨(some 28), (.val (.conv (.int .u32) (.tmp 27))), none⟩,
      ⟨(some 29), (.val (.bin .add (.tmp 24) (.tmp 28))), none⟩,
      ⟨(some 8), (.val (.mov (.tmp 29))), none⟩]))
   (.region [⟨(some 21), (.val (.mov (.tmp 9))), none⟩,
     ⟨(some 22), (.val (.bin .add (.tmp 21) (.const (.int .i64 1)))), none⟩,
     ⟨(some 9), (.val (.mov (.tmp 22))), none⟩])))
def F28l1 : ICode :=
 (.seq
  (.seq
   (.region [⟨(some 41), (.val (.mov (.tmp 10))), none⟩,
     ⟨(some 42), (.val (.mov (.tmp 0))), none⟩,
     ⟨(some 43), (.val (.lenstr (.tmp 42))), none⟩,
     ⟨(some 44), (.val (.bin .lss (.tmp 41) (.tmp 43))), none⟩])
   (.cond (.tmp 44)
    .skip
    (.exit 2)))
  (.block 3
   (.seq
    (.region [⟨(some 45), (.val (.mov (.tmp 8))), none⟩,
      ⟨(some 46), (.val (.bin .mul (.tmp 45) (.const (.int .u32 16777619)))), none⟩,
      ⟨(some 8), (.val (.mov (.tmp 46))), none⟩])
    (.seq
     (.region [⟨(some 47), (.val (.mov (.tmp 8))), none⟩,
       ⟨(some 48), (.val (.mov (.tmp 0))), none⟩,
       ⟨(some 49), (.val (.mov (.tmp 10))), none⟩,
       ⟨(some 50), (.val (.idxstr (.tmp 48) (.tmp 49))), none⟩,
       ⟨(some 51), (.val (.conv (.int .u32) (.tmp 50))), none⟩,
       ⟨(some 52), (.val (.bin .add (.tmp 47) (.tmp 51))), none⟩,
       ⟨(some 8), (.val (.mov (.tmp 52))), none⟩])
     (.seq
      (.region [⟨(some 53), (.val (.mov (.tmp 8))), none⟩,
        ⟨(some 54), (.val (.mov (.tmp 6))), none⟩,
        ⟨(some 55), (.val (.mov (.tmp 0))), none⟩,
        ⟨(some 56), (.val (.mov (.tmp 10))), none⟩,
        ⟨(some 57), (.val (.mov (.tmp 7))), none⟩,
        ⟨(some 58), (.val (.bin .sub (.tmp 56) (.tmp 57))), none⟩,
        ⟨(some 59), (.val (.idxstr (.tmp 55) (.tmp 58))), none⟩,
        ⟨(some 60), (.val (.conv (.int .u32) (.tmp 59))), none⟩,
        ⟨(some 61), (.val (.bin .mul (.tmp 54) (.tmp 60))), none⟩,
        ⟨(some 62), (.val (.bin .sub (.tmp 53) (.tmp 61))), none⟩,
        ⟨(some 8), (.val (.mov (.tmp 62))), none⟩])
      (.seq
       (.region [⟨(some 63), (.val (.mov (.tmp 10))), none⟩,
         ⟨(some 64), (.val (.bin .add (.tmp 63) (.const (.int .i64 1)))), none⟩,
         ⟨(some 10), (.val (.mov (.tmp 64))), none⟩])
       (.seq
        (.region [⟨(some 65), (.val (.mov (.tmp 8))), none⟩,
          ⟨(some 66), (.val (.mov (.tmp 5))), none⟩,
          ⟨(some 67), (.val (.eq false (.prim 1) (.tmp 65) (.tmp 66))), none⟩,
          ⟨(some 68), (.val (.mov (.tmp 67))), none⟩,
          ⟨(some 69), (.val (.mov (.tmp 0))), (some (68, true))⟩,
          ⟨(some 70), (.val (.mov (.tmp 10))), (some (68, true))⟩,
          ⟨(some 71), (.val (.mov (.tmp 7))), (some (68, true))⟩,
          ⟨(some 72), (.val (.bin .sub (.tmp 70) (.tmp 71))), (some (68, true))⟩,
          ⟨(some 73), (.val (.mov (.tmp 10))), (some (68, true))⟩,
          ⟨(some 74), (.val (.slstr (.tmp 69) (some (.tmp 72)) (some (.tmp 73)))), (some (68, true))⟩,
          ⟨(some 75), (.val (.mov (.tmp 1))), (some (68, true))⟩,
          ⟨(some 76), (.val (.eq false (.prim 2) (.tmp 74) (.tmp 75))), (some (68, true))⟩,
          ⟨(some 77), (.val (.pick (.tmp 68) (.tmp 76) (.const (.bool false)))), none⟩])
        (.cond (.tmp 77)
         (.seq
          (.region [⟨(some 78), (.val (.mov (.tmp 10))), none⟩,
            ⟨(some 79), (.val (.mov (.tmp 7))), none⟩,
            ⟨(some 80), (.val (.bin .sub (.tmp 78) (.tmp 79))), none⟩,
            ⟨(some 4), (.val (.mov (.tmp 80))), none⟩])
          .ret)
         .skip))))))))
def F28 : IFun :=
 ⟨81,
 (.seq
  (.region [⟨(some 4), (.val (.mov (.const (.int .i64 0)))), none⟩])
  (.seq
   (.region [⟨(some 12), (.val (.mov (.tmp 1))), none⟩,
     ⟨(some 13), (.call (.const (.func 29 [] [])) [(.tmp 12)]), none⟩,
     ⟨(some 11), (.val (.mov (.tmp 13))), none⟩,
     ⟨(some 14), (.val (.extract (.tmp 11) 0)), none⟩,
     ⟨(some 15), (.val (.extract (.tmp 11) 1)), none⟩,
     ⟨(some 5), (.val (.mov (.tmp 14))), none⟩,
     ⟨(some 6), (.val (.mov (.tmp 15))), none⟩])
   (.seq
    (.region [⟨(some 16), (.val (.mov (.tmp 1))), none⟩,
      ⟨(some 17), (.val (.lenstr (.tmp 16))), none⟩,
      ⟨(some 7), (.val (.mov (.tmp 17))), none⟩])
    (.seq
     (.region [⟨(some 8), (.val (.mov (.const (.int .u32 0)))), none⟩])
     (.seq
      (.seq
       (.region [⟨(some 9), (.val (.mov (.const (.int .i64 0)))), none⟩])
       (.block 0
        (.loop F28l0)))
      (.seq
       (.seq
        (.region [⟨(some 30), (.val (.mov (.tmp 8))), none⟩,
          ⟨(some 31), (.val (.mov (.tmp 5))), none⟩,
          ⟨(some 32), (.val (.eq false (.prim 1) (.tmp 30) (.tmp 31))), none⟩,
          ⟨(some 33), (.val (.mov (.tmp 32))), none⟩,
          ⟨(some 34), (.val (.mov (.tmp 0))), (some (33, true))⟩,
          ⟨(some 35), (.val (.mov (.tmp 7))), (some (33, true))⟩,
          ⟨(some 36), (.val (.slstr (.tmp 34) none (some (.tmp 35)))), (some (33, true))⟩,
          ⟨(some 37), (.val (.mov (.tmp 1))), (some (33, true))⟩,
          ⟨(some 38), (.val (.eq false (.prim 2) (.tmp 36) (.tmp 37))), (some (33, true))⟩,
          ⟨(some 39), (.val (.pick (.tmp 33) (.tmp 38) (.const (.bool false)))), none⟩])
        (.cond (.tmp 39)
         (.seq
          (.region [⟨(some 4), (.val (.mov (.const (.int .i64 0)))), none⟩])
          .ret)
         .skip))
       (.seq
        (.seq
         (.region [⟨(some 40), (.val (.mov (.tmp 7))), none⟩,
           ⟨(some 10), (.val (.mov (.tmp 40))), none⟩])
         (.block 2
          (.loop F28l1)))
        (.seq
         (.region [⟨(some 4), (.val (.mov (.const (.int .i64 (-1))))), none⟩])
         .ret)))))))),
 [.tmp 4]⟩
theorem ok28 : cFun Try.prog G Try.f28 = some F28 := by kernel_rfl

/- internal/bytealg.hashStr[string] -/
def F29l0 : ICode :=
 (.seq
  (.seq
   (.region [⟨(some 9), (.val (.mov (.tmp 5))), none⟩,
     ⟨(some 10), (.val (.mov (.tmp 0))), none⟩,
     ⟨(some 11), (.val (.lenstr (.tmp 10))), none⟩,
     ⟨(some 12), (.val (.bin .lss (.tmp 9) (.tmp 11))), none⟩])
   (.cond (.tmp 12)
    .skip
    (.exit 0)))
  (.seq
   (.block 1
    (.region [⟨(some 15), (.val (.mov (.tmp 4))), none⟩,
      ⟨(some 16), (.val (.bin .mul (.tmp 15) (.const (.int .u32 16777619)))), none⟩,
      ⟨(some 17), (.val (.mov (.tmp 0))), none⟩,
      ⟨(some 18), (.val (.mov (.tmp 5))), none⟩,
      ⟨(some 19), (.val (.idxstr (.tmp 17) (.tmp 18))), none⟩,
      ⟨(some 20), (.val (.conv (.int .u32) (.tmp 19))), none⟩,
      ⟨(some 21), (.val (.bin .add (.tmp 16) (.tmp 20))), none⟩,
      ⟨(some 4), (.val (.mov (.tmp 21))), none⟩]))
   (.region [⟨(some 13), (.val (.mov (.tmp 5))), none⟩,
     ⟨(some 14), (.val (.bin .add (.tmp 13) (.const (.int .i64 1)))), none⟩,
     ⟨(some 5), (.val (.mov (.tmp 14))), none⟩])))
def F29l1 : ICode :=
 (.seq
  (.seq
   (.region [⟨(some 24), (.val (.mov (.tmp 8))), none⟩,
     ⟨(some 25), (.val (.bin .gtr (.tmp 24) (.const (.int .i64 0)))), none⟩])
   (.cond (.tmp 25)
    .skip
    (.exit 2)))
  (.seq
   (.block 3
    (.seq
     (.seq
      (.region [⟨(some 28), (.val (.mov (.tmp 8))), none⟩,
        ⟨(some 29), (.val (.bin .and (.tmp 28) (.const (.int .i64 1)))), none⟩,
        ⟨(some 30), (.val (.eq true (.prim 1) (.tmp 29) (.const (.int .i64 0)))), none⟩])
      (.cond (.tmp 30)
       (.region [⟨(some 31), (.val (.mov (.tmp 6))), none⟩,
         ⟨(some 32), (.val (.mov (.tmp 7))), none⟩,
         ⟨(some 33), (.val (.bin .mul (.tmp 31) (.tmp 32))), none⟩,
         ⟨(some 6), (.val (.mov (.tmp 33))), none⟩])
       .skip))
     (.region [⟨(some 34), (.val (.mov (.tmp 7))), none⟩,
       ⟨(some 35), (.val (.mov (.tmp 7))), none⟩,
       ⟨(some 36), (.val (.bin .mul (.tmp 34) (.tmp 35))), none⟩,
       ⟨(some 7), (.val (.mov (.tmp 36))), none⟩])))
   (.region [⟨(some 26), (.val (.mov (.tmp 8))), none⟩,
     ⟨(some 27), (.val (.bin .shr (.tmp 26) (.const (.int .u64 1)))), none⟩,
     ⟨(some 8), (.val (.mov (.tmp 27))), none⟩])))
def F29 : IFun :=
 ⟨39,
 (.seq
  (.region [⟨(some 2), (.val (.mov (.const (.int .u32 0)))), none⟩,
    ⟨(some 3), (.val (.mov (.const (.int .u32 0)))), none⟩])
  (.seq
   (.region [⟨(some 4), (.val (.mov (.const (.int .u32 0)))), none⟩])
   (.seq
    (.seq
     (.region [⟨(some 5), (.val (.mov (.const (.int .i64 0)))), none⟩])
     (.block 0
      (.loop F29l0)))
    (.seq
     (.region [⟨(some 6), (.val (.mov (.const (.int .u32 1)))), none⟩,
       ⟨(some 7), (.val (.mov (.const (.int .u32 16777619)))), none⟩])
     (.seq
      (.seq
       (.region [⟨(some 22), (.val (.mov (.tmp 0))), none⟩,
         ⟨(some 23), (.val (.lenstr (.tmp 22))), none⟩,
         ⟨(some 8), (.val (.mov (.tmp 23))), none⟩])
       (.block 2
        (.loop F29l1)))
      (.seq
       (.region [⟨(some 37), (.val (.mov (.tmp 4))), none⟩,
         ⟨(some 38), (.val (.mov (.tmp 6))), none⟩,
         ⟨(some 2), (.val (.mov (.tmp 37))), none⟩,
         ⟨(some 3), (.val (.mov (.tmp 38))), none⟩])
       .ret)))))),
 [.tmp 2, .tmp 3]⟩
theorem ok29 : cFun Try.prog G Try.f29 = some F29 := by kernel_rfl

end Go.Proofs.Ytonjfghdakmffaa.Ev
