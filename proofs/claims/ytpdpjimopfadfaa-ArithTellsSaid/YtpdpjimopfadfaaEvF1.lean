/- The evaluator's code of the given functions, printed by program (EvPut); part 1. -/
import Derived.Test.YtpdpjimopfadfaaEvF0
namespace Go.Proofs.Ytpdpjimopfadfaa.Ev
open Go

/- balustrade/balustraderef01.Neg -/
def F18 : IFun :=
 ⟨8,
 (.seq
  (.region [⟨(some 2), (.val (.mov (.const (.int .i64 0)))), none⟩,
    ⟨(some 3), (.val (.mov (.const (.bool false)))), none⟩])
  (.seq
   (.seq
    (.region [⟨(some 4), (.val (.mov (.tmp 0))), none⟩,
      ⟨(some 5), (.val (.eq false (.prim 1) (.tmp 4) (.const (.int .i64 (-9223372036854775808))))), none⟩])
    (.cond (.tmp 5)
     (.seq
      (.region [⟨(some 2), (.val (.mov (.const (.int .i64 0)))), none⟩,
        ⟨(some 3), (.val (.mov (.const (.bool false)))), none⟩])
      .ret)
     .skip))
   (.seq
    (.region [⟨(some 6), (.val (.mov (.tmp 0))), none⟩,
      ⟨(some 7), (.val (.un .neg (.tmp 6))), none⟩,
      ⟨(some 2), (.val (.mov (.tmp 7))), none⟩,
      ⟨(some 3), (.val (.mov (.const (.bool true)))), none⟩])
    .ret))),
 [.tmp 2, .tmp 3]⟩
theorem ok18 : cFun Try.prog G Try.f18 = some F18 := by kernel_rfl

/- balustrade/balustraderef01.Div -/
def F19l0 : ICode :=
 (.seq
  (.seq
   (.region [⟨(some 24), (.val (.mov (.tmp 9))), none⟩,
     ⟨(some 25), (.val (.bin .geq (.tmp 24) (.const (.int .i64 0)))), none⟩])
   (.cond (.tmp 25)
    .skip
    (.exit 0)))
  (.seq
   (.block 1
    (.seq
     (.region [⟨(some 28), (.val (.mov (.tmp 7))), none⟩,
       ⟨(some 29), (.val (.mov (.tmp 9))), none⟩,
       ⟨(some 30), (.val (.bin .shr (.const (.int .i64 (-9223372036854775807))) (.tmp 29))), none⟩,
       ⟨(some 31), (.val (.bin .geq (.tmp 28) (.tmp 30))), none⟩,
       ⟨(some 32), (.val (.mov (.tmp 31))), none⟩,
       ⟨(some 33), (.val (.mov (.tmp 6))), (some (32, true))⟩,
       ⟨(some 34), (.val (.mov (.tmp 7))), (some (32, true))⟩,
       ⟨(some 35), (.val (.mov (.tmp 9))), (some (32, true))⟩,
       ⟨(some 36), (.val (.bin .shl (.tmp 34) (.tmp 35))), (some (32, true))⟩,
       ⟨(some 37), (.val (.bin .leq (.tmp 33) (.tmp 36))), (some (32, true))⟩,
       ⟨(some 38), (.val (.pick (.tmp 32) (.tmp 37) (.const (.bool false)))), none⟩])
     (.cond (.tmp 38)
      (.seq
       (.region [⟨(some 39), (.val (.mov (.tmp 6))), none⟩,
         ⟨(some 40), (.val (.mov (.tmp 7))), none⟩,
         ⟨(some 41), (.val (.mov (.tmp 9))), none⟩,
         ⟨(some 42), (.val (.bin .shl (.tmp 40) (.tmp 41))), none⟩,
         ⟨(some 43), (.val (.bin .sub (.tmp 39) (.tmp 42))), none⟩,
         ⟨(some 6), (.val (.mov (.tmp 43))), none⟩])
       (.region [⟨(some 44), (.val (.mov (.tmp 8))), none⟩,
         ⟨(some 45), (.val (.mov (.tmp 9))), none⟩,
         ⟨(some 46), (.val (.bin .shl (.const (.int .i64 1)) (.tmp 45))), none⟩,
         ⟨(some 47), (.val (.bin .sub (.tmp 44) (.tmp 46))), none⟩,
         ⟨(some 8), (.val (.mov (.tmp 47))), none⟩]))
      .skip)))
   (.region [⟨(some 26), (.val (.mov (.tmp 9))), none⟩,
     ⟨(some 27), (.val (.bin .sub (.tmp 26) (.const (.int .i64 1)))), none⟩,
     ⟨(some 9), (.val (.mov (.tmp 27))), none⟩])))
def F19 : IFun :=
 ⟨64,
 (.seq
  (.region [⟨(some 4), (.val (.mov (.const (.int .i64 0)))), none⟩,
    ⟨(some 5), (.val (.mov (.const (.bool false)))), none⟩])
  (.seq
   (.seq
    (.region [⟨(some 10), (.val (.mov (.tmp 0))), none⟩,
      ⟨(some 11), (.val (.mov (.tmp 1))), none⟩,
      ⟨(some 12), (.call (.const (.func 25 [] [])) [(.tmp 10), (.tmp 11)]), none⟩,
      ⟨(some 13), (.val (.un .not (.tmp 12))), none⟩])
    (.cond (.tmp 13)
     (.seq
      (.region [⟨(some 4), (.val (.mov (.const (.int .i64 0)))), none⟩,
        ⟨(some 5), (.val (.mov (.const (.bool false)))), none⟩])
      .ret)
     .skip))
   (.seq
    (.region [⟨(some 14), (.val (.mov (.tmp 0))), none⟩,
      ⟨(some 15), (.val (.mov (.tmp 1))), none⟩,
      ⟨(some 6), (.val (.mov (.tmp 14))), none⟩,
      ⟨(some 7), (.val (.mov (.tmp 15))), none⟩])
    (.seq
     (.seq
      (.region [⟨(some 16), (.val (.mov (.tmp 6))), none⟩,
        ⟨(some 17), (.val (.bin .gtr (.tmp 16) (.const (.int .i64 0)))), none⟩])
      (.cond (.tmp 17)
       (.region [⟨(some 18), (.val (.mov (.tmp 6))), none⟩,
         ⟨(some 19), (.val (.un .neg (.tmp 18))), none⟩,
         ⟨(some 6), (.val (.mov (.tmp 19))), none⟩])
       .skip))
     (.seq
      (.seq
       (.region [⟨(some 20), (.val (.mov (.tmp 7))), none⟩,
         ⟨(some 21), (.val (.bin .gtr (.tmp 20) (.const (.int .i64 0)))), none⟩])
       (.cond (.tmp 21)
        (.region [⟨(some 22), (.val (.mov (.tmp 7))), none⟩,
          ⟨(some 23), (.val (.un .neg (.tmp 22))), none⟩,
          ⟨(some 7), (.val (.mov (.tmp 23))), none⟩])
        .skip))
      (.seq
       (.region [⟨(some 8), (.val (.mov (.const (.int .i64 0)))), none⟩])
       (.seq
        (.seq
         (.region [⟨(some 9), (.val (.mov (.const (.int .i64 62)))), none⟩])
         (.block 0
          (.loop F19l0)))
        (.seq
         (.seq
          (.region [⟨(some 48), (.val (.mov (.tmp 6))), none⟩,
            ⟨(some 49), (.val (.mov (.tmp 7))), none⟩,
            ⟨(some 50), (.val (.bin .leq (.tmp 48) (.tmp 49))), none⟩])
          (.cond (.tmp 50)
           (.seq
            (.region [⟨(some 51), (.val (.mov (.tmp 6))), none⟩,
              ⟨(some 52), (.val (.mov (.tmp 7))), none⟩,
              ⟨(some 53), (.val (.bin .sub (.tmp 51) (.tmp 52))), none⟩,
              ⟨(some 6), (.val (.mov (.tmp 53))), none⟩])
            (.region [⟨(some 54), (.val (.mov (.tmp 8))), none⟩,
              ⟨(some 55), (.val (.bin .sub (.tmp 54) (.const (.int .i64 1)))), none⟩,
              ⟨(some 8), (.val (.mov (.tmp 55))), none⟩]))
           .skip))
         (.seq
          (.seq
           (.region [⟨(some 56), (.val (.mov (.tmp 0))), none⟩,
             ⟨(some 57), (.val (.bin .lss (.tmp 56) (.const (.int .i64 0)))), none⟩,
             ⟨(some 58), (.val (.mov (.tmp 1))), none⟩,
             ⟨(some 59), (.val (.bin .lss (.tmp 58) (.const (.int .i64 0)))), none⟩,
             ⟨(some 60), (.val (.eq false (.prim 0) (.tmp 57) (.tmp 59))), none⟩])
           (.cond (.tmp 60)
            (.seq
             (.region [⟨(some 61), (.val (.mov (.tmp 8))), none⟩,
               ⟨(some 62), (.val (.un .neg (.tmp 61))), none⟩,
               ⟨(some 4), (.val (.mov (.tmp 62))), none⟩,
               ⟨(some 5), (.val (.mov (.const (.bool true)))), none⟩])
             .ret)
            .skip))
          (.seq
           (.region [⟨(some 63), (.val (.mov (.tmp 8))), none⟩,
             ⟨(some 4), (.val (.mov (.tmp 63))), none⟩,
             ⟨(some 5), (.val (.mov (.const (.bool true)))), none⟩])
           .ret)))))))))),
 [.tmp 4, .tmp 5]⟩
theorem ok19 : cFun Try.prog G Try.f19 = some F19 := by kernel_rfl

/- balustrade/balustraderef01.Mod -/
def F20 : IFun :=
 ⟨21,
 (.seq
  (.region [⟨(some 4), (.val (.mov (.const (.int .i64 0)))), none⟩,
    ⟨(some 5), (.val (.mov (.const (.bool false)))), none⟩])
  (.seq
   (.region [⟨(some 9), (.val (.mov (.tmp 0))), none⟩,
     ⟨(some 10), (.val (.mov (.tmp 1))), none⟩,
     ⟨(some 11), (.call (.const (.func 19 [] [])) [(.tmp 9), (.tmp 10)]), none⟩,
     ⟨(some 8), (.val (.mov (.tmp 11))), none⟩,
     ⟨(some 12), (.val (.extract (.tmp 8) 0)), none⟩,
     ⟨(some 13), (.val (.extract (.tmp 8) 1)), none⟩,
     ⟨(some 6), (.val (.mov (.tmp 12))), none⟩,
     ⟨(some 7), (.val (.mov (.tmp 13))), none⟩])
   (.seq
    (.seq
     (.region [⟨(some 14), (.val (.mov (.tmp 7))), none⟩,
       ⟨(some 15), (.val (.un .not (.tmp 14))), none⟩])
     (.cond (.tmp 15)
      (.seq
       (.region [⟨(some 4), (.val (.mov (.const (.int .i64 0)))), none⟩,
         ⟨(some 5), (.val (.mov (.const (.bool false)))), none⟩])
       .ret)
      .skip))
    (.seq
     (.region [⟨(some 16), (.val (.mov (.tmp 0))), none⟩,
       ⟨(some 17), (.val (.mov (.tmp 1))), none⟩,
       ⟨(some 18), (.val (.mov (.tmp 6))), none⟩,
       ⟨(some 19), (.val (.bin .mul (.tmp 17) (.tmp 18))), none⟩,
       ⟨(some 20), (.val (.bin .sub (.tmp 16) (.tmp 19))), none⟩,
       ⟨(some 4), (.val (.mov (.tmp 20))), none⟩,
       ⟨(some 5), (.val (.mov (.const (.bool true)))), none⟩])
     .ret)))),
 [.tmp 4, .tmp 5]⟩
theorem ok20 : cFun Try.prog G Try.f20 = some F20 := by kernel_rfl

/- math/bits.Mul64 -/
def F21 : IFun :=
 ⟨51,
 (.seq
  (.region [⟨(some 4), (.val (.mov (.const (.int .u64 0)))), none⟩,
    ⟨(some 5), (.val (.mov (.const (.int .u64 0)))), none⟩])
  (.seq
   (.region [⟨(some 14), (.val (.mov (.tmp 0))), none⟩,
     ⟨(some 15), (.val (.bin .and (.tmp 14) (.const (.int .u64 4294967295)))), none⟩,
     ⟨(some 6), (.val (.mov (.tmp 15))), none⟩])
   (.seq
    (.region [⟨(some 16), (.val (.mov (.tmp 0))), none⟩,
      ⟨(some 17), (.val (.bin .shr (.tmp 16) (.const (.int .u64 32)))), none⟩,
      ⟨(some 7), (.val (.mov (.tmp 17))), none⟩])
    (.seq
     (.region [⟨(some 18), (.val (.mov (.tmp 1))), none⟩,
       ⟨(some 19), (.val (.bin .and (.tmp 18) (.const (.int .u64 4294967295)))), none⟩,
       ⟨(some 8), (.val (.mov (.tmp 19))), none⟩])
     (.seq
      (.region [⟨(some 20), (.val (.mov (.tmp 1))), none⟩,
        ⟨(some 21), (.val (.bin .shr (.tmp 20) (.const (.int .u64 32)))), none⟩,
        ⟨(some 9), (.val (.mov (.tmp 21))), none⟩])
      (.seq
       (.region [⟨(some 22), (.val (.mov (.tmp 6))), none⟩,
         ⟨(some 23), (.val (.mov (.tmp 8))), none⟩,
         ⟨(some 24), (.val (.bin .mul (.tmp 22) (.tmp 23))), none⟩,
         ⟨(some 10), (.val (.mov (.tmp 24))), none⟩])
       (.seq
        (.region [⟨(some 25), (.val (.mov (.tmp 7))), none⟩,
          ⟨(some 26), (.val (.mov (.tmp 8))), none⟩,
          ⟨(some 27), (.val (.bin .mul (.tmp 25) (.tmp 26))), none⟩,
          ⟨(some 28), (.val (.mov (.tmp 10))), none⟩,
          ⟨(some 29), (.val (.bin .shr (.tmp 28) (.const (.int .u64 32)))), none⟩,
          ⟨(some 30), (.val (.bin .add (.tmp 27) (.tmp 29))), none⟩,
          ⟨(some 11), (.val (.mov (.tmp 30))), none⟩])
        (.seq
         (.region [⟨(some 31), (.val (.mov (.tmp 11))), none⟩,
           ⟨(some 32), (.val (.bin .and (.tmp 31) (.const (.int .u64 4294967295)))), none⟩,
           ⟨(some 12), (.val (.mov (.tmp 32))), none⟩])
         (.seq
          (.region [⟨(some 33), (.val (.mov (.tmp 11))), none⟩,
            ⟨(some 34), (.val (.bin .shr (.tmp 33) (.const (.int .u64 32)))), none⟩,
            ⟨(some 13), (.val (.mov (.tmp 34))), none⟩])
          (.seq
           (.region [⟨(some 35), (.val (.mov (.tmp 12))), none⟩,
             ⟨(some 36), (.val (.mov (.tmp 6))), none⟩,
             ⟨(some 37), (.val (.mov (.tmp 9))), none⟩,
             ⟨(some 38), (.val (.bin .mul (.tmp 36) (.tmp 37))), none⟩,
             ⟨(some 39), (.val (.bin .add (.tmp 35) (.tmp 38))), none⟩,
             ⟨(some 12), (.val (.mov (.tmp 39))), none⟩])
           (.seq
            (.region [⟨(some 40), (.val (.mov (.tmp 7))), none⟩,
              ⟨(some 41), (.val (.mov (.tmp 9))), none⟩,
              ⟨(some 42), (.val (.bin .mul (.tmp 40) (.tmp 41))), none⟩,
              ⟨(some 43), (.val (.mov (.tmp 13))), none⟩,
              ⟨(some 44), (.val (.bin .add (.tmp 42) (.tmp 43))), none⟩,
              ⟨(some 45), (.val (.mov (.tmp 12))), none⟩,
              ⟨(some 46), (.val (.bin .shr (.tmp 45) (.const (.int .u64 32)))), none⟩,
              ⟨(some 47), (.val (.bin .add (.tmp 44) (.tmp 46))), none⟩,
              ⟨(some 4), (.val (.mov (.tmp 47))), none⟩])
            (.seq
             (.region [⟨(some 48), (.val (.mov (.tmp 0))), none⟩,
               ⟨(some 49), (.val (.mov (.tmp 1))), none⟩,
               ⟨(some 50), (.val (.bin .mul (.tmp 48) (.tmp 49))), none⟩,
               ⟨(some 5), (.val (.mov (.tmp 50))), none⟩])
             .ret)))))))))))),
 [.tmp 4, .tmp 5]⟩
theorem ok21 : cFun Try.prog G Try.f21 = some F21 := by kernel_rfl

/- balustrade/arith.size -/
def F22 : IFun :=
 ⟨10,
 (.seq
  (.region [⟨(some 2), (.val (.mov (.const (.int .u64 0)))), none⟩])
  (.seq
   (.seq
    (.region [⟨(some 3), (.val (.mov (.tmp 0))), none⟩,
      ⟨(some 4), (.val (.bin .lss (.tmp 3) (.const (.int .i64 0)))), none⟩])
    (.cond (.tmp 4)
     (.seq
      (.region [⟨(some 5), (.val (.mov (.tmp 0))), none⟩,
        ⟨(some 6), (.val (.conv (.int .u64) (.tmp 5))), none⟩,
        ⟨(some 7), (.val (.un .neg (.tmp 6))), none⟩,
        ⟨(some 2), (.val (.mov (.tmp 7))), none⟩])
      .ret)
     .skip))
   (.seq
    (.region [⟨(some 8), (.val (.mov (.tmp 0))), none⟩,
      ⟨(some 9), (.val (.conv (.int .u64) (.tmp 8))), none⟩,
      ⟨(some 2), (.val (.mov (.tmp 9))), none⟩])
    .ret))),
 [.tmp 2]⟩
theorem ok22 : cFun Try.prog G Try.f22 = some F22 := by kernel_rfl

/- balustrade/arith.whole -/
def F23 : IFun :=
 ⟨15,
 (.seq
  (.region [⟨(some 4), (.val (.mov (.const (.bool false)))), none⟩])
  (.seq
   (.region [⟨(some 5), (.val (.mov (.tmp 1))), none⟩,
     ⟨(some 6), (.val (.eq true (.prim 1) (.tmp 5) (.const (.int .i64 0)))), none⟩,
     ⟨(some 7), (.val (.mov (.tmp 6))), none⟩,
     ⟨(some 8), (.val (.mov (.tmp 0))), (some (7, true))⟩,
     ⟨(some 9), (.val (.eq true (.prim 1) (.tmp 8) (.const (.int .i64 (-9223372036854775808))))), (some (7, true))⟩,
     ⟨(some 10), (.val (.mov (.tmp 9))), (some (7, true))⟩,
     ⟨(some 11), (.val (.mov (.tmp 1))), (some (10, false))⟩,
     ⟨(some 12), (.val (.eq true (.prim 1) (.tmp 11) (.const (.int .i64 (-1))))), (some (10, false))⟩,
     ⟨(some 13), (.val (.pick (.tmp 10) (.const (.bool true)) (.tmp 12))), (some (7, true))⟩,
     ⟨(some 14), (.val (.pick (.tmp 7) (.tmp 13) (.const (.bool false)))), none⟩,
     ⟨(some 4), (.val (.mov (.tmp 14))), none⟩])
   .ret)),
 [.tmp 4]⟩
theorem ok23 : cFun Try.prog G Try.f23 = some F23 := by kernel_rfl

/- balustrade/balustraderef01.fits -/
def F25 : IFun :=
 ⟨16,
 (.seq
  (.region [⟨(some 4), (.val (.mov (.const (.bool false)))), none⟩])
  (.seq
   (.region [⟨(some 5), (.val (.mov (.tmp 1))), none⟩,
     ⟨(some 6), (.val (.eq true (.prim 1) (.tmp 5) (.const (.int .i64 0)))), none⟩,
     ⟨(some 7), (.val (.mov (.tmp 6))), none⟩,
     ⟨(some 8), (.val (.mov (.tmp 1))), (some (7, true))⟩,
     ⟨(some 9), (.val (.eq false (.prim 1) (.tmp 8) (.const (.int .i64 (-1))))), (some (7, true))⟩,
     ⟨(some 10), (.val (.mov (.tmp 9))), (some (7, true))⟩,
     ⟨(some 11), (.val (.mov (.tmp 0))), (some (10, true))⟩,
     ⟨(some 12), (.val (.eq false (.prim 1) (.tmp 11) (.const (.int .i64 (-9223372036854775808))))), (some (10, true))⟩,
     ⟨(some 13), (.val (.pick (.tmp 10) (.tmp 12) (.const (.bool false)))), (some (7, true))⟩,
     ⟨(some 14), (.val (.un .not (.tmp 13))), (some (7, true))⟩,
     ⟨(some 15), (.val (.pick (.tmp 7) (.tmp 14) (.const (.bool false)))), none⟩,
     ⟨(some 4), (.val (.mov (.tmp 15))), none⟩])
   .ret)),
 [.tmp 4]⟩
theorem ok25 : cFun Try.prog G Try.f25 = some F25 := by kernel_rfl

end Go.Proofs.Ytpdpjimopfadfaa.Ev
