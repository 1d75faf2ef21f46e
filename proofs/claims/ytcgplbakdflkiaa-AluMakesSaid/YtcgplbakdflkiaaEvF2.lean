/- The evaluator's code of the given functions, printed by program (EvPut); part 2. -/
import Derived.Test.YtcgplbakdflkiaaEvF1
namespace Go.Proofs.Ytcgplbakdflkiaa.Ev
open Go

/- math/bits.Mul64 -/
def F41 : IFun :=
 ⟨51,
 (.seq
  (.region [⟨(some 4), (.val (.mov (.const (.int .u64 0)))), none⟩,
    ⟨(some 5), (.val (.mov (.const (.int .u64 0)))), none⟩])
  (.seq
   (.region [⟨(some 14), (.val (.mov (.tmp 0))), none⟩,
     ⟨(some 15), (.val (.bin .and (.tmp 14) (.const (.int .u64 4294967295)))), none⟩,
     ⟨(some 6), (.val (.mov (.tmp 15))), none⟩])
   (.seq
    (.region [⟨(some 16), (.val (.mov (.tmp 0))), none⟩,
      ⟨(some 17), (.val (.bin .shr (.tmp 16) (.const (.int .u64 32)))), none⟩,
      ⟨(some 7), (.val (.mov (.tmp 17))), none⟩])
    (.seq
     (.region [⟨(some 18), (.val (.mov (.tmp 1))), none⟩,
       ⟨(some 19), (.val (.bin .and (.tmp 18) (.const (.int .u64 4294967295)))), none⟩,
       ⟨(some 8), (.val (.mov (.tmp 19))), none⟩])
     (.seq
      (.region [⟨(some 20), (.val (.mov (.tmp 1))), none⟩,
        ⟨(some 21), (.val (.bin .shr (.tmp 20) (.const (.int .u64 32)))), none⟩,
        ⟨(some 9), (.val (.mov (.tmp 21))), none⟩])
      (.seq
       (.region [⟨(some 22), (.val (.mov (.tmp 6))), none⟩,
         ⟨(some 23), (.val (.mov (.tmp 8))), none⟩,
         ⟨(some 24), (.val (.bin .mul (.tmp 22) (.tmp 23))), none⟩,
         ⟨(some 10), (.val (.mov (.tmp 24))), none⟩])
       (.seq
        (.region [⟨(some 25), (.val (.mov (.tmp 7))), none⟩,
          ⟨(some 26), (.val (.mov (.tmp 8))), none⟩,
          ⟨(some 27), (.val (.bin .mul (.tmp 25) (.tmp 26))), none⟩,
          ⟨(some 28), (.val (.mov (.tmp 10))), none⟩,
          ⟨(some 29), (.val (.bin .shr (.tmp 28) (.const (.int .u64 32)))), none⟩,
          ⟨(some 30), (.val (.bin .add (.tmp 27) (.tmp 29))), none⟩,
          ⟨(some 11), (.val (.mov (.tmp 30))), none⟩])
        (.seq
         (.region [⟨(some 31), (.val (.mov (.tmp 11))), none⟩,
           ⟨(some 32), (.val (.bin .and (.tmp 31) (.const (.int .u64 4294967295)))), none⟩,
           ⟨(some 12), (.val (.mov (.tmp 32))), none⟩])
         (.seq
          (.region [⟨(some 33), (.val (.mov (.tmp 11))), none⟩,
            ⟨(some 34), (.val (.bin .shr (.tmp 33) (.const (.int .u64 32)))), none⟩,
            ⟨(some 13), (.val (.mov (.tmp 34))), none⟩])
          (.seq
           (.region [⟨(some 35), (.val (.mov (.tmp 12))), none⟩,
             ⟨(some 36), (.val (.mov (.tmp 6))), none⟩,
             ⟨(some 37), (.val (.mov (.tmp 9))), none⟩,
             ⟨(some 38), (.val (.bin .mul (.tmp 36) (.tmp 37))), none⟩,
             ⟨(some 39), (.val (.bin .add (.tmp 35) (.tmp 38))), none⟩,
             ⟨(some 12), (.val (.mov (.tmp 39))), none⟩])
           (.seq
            (.region [⟨(some 40), (.val (.mov (.tmp 7))), none⟩,
              ⟨(some 41), (.val (.mov (.tmp 9))), none⟩,
              ⟨(some 42), (.val (.bin .mul (.tmp 40) (.tmp 41))), none⟩,
              ⟨(some 43), (.val (.mov (.tmp 13))), none⟩,
              ⟨(some 44), (.val (.bin .add (.tmp 42) (.tmp 43))), none⟩,
              ⟨(some 45), (.val (.mov (.tmp 12))), none⟩,
              ⟨(some 46), (.val (.bin .shr (.tmp 45) (.const (.int .u64 32)))), none⟩,
              ⟨(some 47), (.val (.bin .add (.tmp 44) (.tmp 46))), none⟩,
              ⟨(some 4), (.val (.mov (.tmp 47))), none⟩])
            (.seq
             (.region [⟨(some 48), (.val (.mov (.tmp 0))), none⟩,
               ⟨(some 49), (.val (.mov (.tmp 1))), none⟩,
               ⟨(some 50), (.val (.bin .mul (.tmp 48) (.tmp 49))), none⟩,
               ⟨(some 5), (.val (.mov (.tmp 50))), none⟩])
             .ret)))))))))))),
 [.tmp 4, .tmp 5]⟩
theorem ok41 : cFun Try.prog G Try.f41 = some F41 := by kernel_rfl

/- balustrade/arith.size -/
def F42 : IFun :=
 ⟨10,
 (.seq
  (.region [⟨(some 2), (.val (.mov (.const (.int .u64 0)))), none⟩])
  (.seq
   (.seq
    (.region [⟨(some 3), (.val (.mov (.tmp 0))), none⟩,
      ⟨(some 4), (.val (.bin .lss (.tmp 3) (.const (.int .i64 0)))), none⟩])
    (.cond (.tmp 4)
     (.seq
      (.region [⟨(some 5), (.val (.mov (.tmp 0))), none⟩,
        ⟨(some 6), (.val (.conv (.int .u64) (.tmp 5))), none⟩,
        ⟨(some 7), (.val (.un .neg (.tmp 6))), none⟩,
        ⟨(some 2), (.val (.mov (.tmp 7))), none⟩])
      .ret)
     .skip))
   (.seq
    (.region [⟨(some 8), (.val (.mov (.tmp 0))), none⟩,
      ⟨(some 9), (.val (.conv (.int .u64) (.tmp 8))), none⟩,
      ⟨(some 2), (.val (.mov (.tmp 9))), none⟩])
    .ret))),
 [.tmp 2]⟩
theorem ok42 : cFun Try.prog G Try.f42 = some F42 := by kernel_rfl

/- balustrade/arith.whole -/
def F43 : IFun :=
 ⟨15,
 (.seq
  (.region [⟨(some 4), (.val (.mov (.const (.bool false)))), none⟩])
  (.seq
   (.region [⟨(some 5), (.val (.mov (.tmp 1))), none⟩,
     ⟨(some 6), (.val (.eq true (.prim 1) (.tmp 5) (.const (.int .i64 0)))), none⟩,
     ⟨(some 7), (.val (.mov (.tmp 6))), none⟩,
     ⟨(some 8), (.val (.mov (.tmp 0))), (some (7, true))⟩,
     ⟨(some 9), (.val (.eq true (.prim 1) (.tmp 8) (.const (.int .i64 (-9223372036854775808))))), (some (7, true))⟩,
     ⟨(some 10), (.val (.mov (.tmp 9))), (some (7, true))⟩,
     ⟨(some 11), (.val (.mov (.tmp 1))), (some (10, false))⟩,
     ⟨(some 12), (.val (.eq true (.prim 1) (.tmp 11) (.const (.int .i64 (-1))))), (some (10, false))⟩,
     ⟨(some 13), (.val (.pick (.tmp 10) (.const (.bool true)) (.tmp 12))), (some (7, true))⟩,
     ⟨(some 14), (.val (.pick (.tmp 7) (.tmp 13) (.const (.bool false)))), none⟩,
     ⟨(some 4), (.val (.mov (.tmp 14))), none⟩])
   .ret)),
 [.tmp 4]⟩
theorem ok43 : cFun Try.prog G Try.f43 = some F43 := by kernel_rfl

/- balustrade/balustraderef01.fits -/
def F44 : IFun :=
 ⟨16,
 (.seq
  (.region [⟨(some 4), (.val (.mov (.const (.bool false)))), none⟩])
  (.seq
   (.region [⟨(some 5), (.val (.mov (.tmp 1))), none⟩,
     ⟨(some 6), (.val (.eq true (.prim 1) (.tmp 5) (.const (.int .i64 0)))), none⟩,
     ⟨(some 7), (.val (.mov (.tmp 6))), none⟩,
     ⟨(some 8), (.val (.mov (.tmp 1))), (some (7, true))⟩,
     ⟨(some 9), (.val (.eq false (.prim 1) (.tmp 8) (.const (.int .i64 (-1))))), (some (7, true))⟩,
     ⟨(some 10), (.val (.mov (.tmp 9))), (some (7, true))⟩,
     ⟨(some 11), (.val (.mov (.tmp 0))), (some (10, true))⟩,
     ⟨(some 12), (.val (.eq false (.prim 1) (.tmp 11) (.const (.int .i64 (-9223372036854775808))))), (some (10, true))⟩,
     ⟨(some 13), (.val (.pick (.tmp 10) (.tmp 12) (.const (.bool false)))), (some (7, true))⟩,
     ⟨(some 14), (.val (.un .not (.tmp 13))), (some (7, true))⟩,
     ⟨(some 15), (.val (.pick (.tmp 7) (.tmp 14) (.const (.bool false)))), none⟩,
     ⟨(some 4), (.val (.mov (.tmp 15))), none⟩])
   .ret)),
 [.tmp 4]⟩
theorem ok44 : cFun Try.prog G Try.f44 = some F44 := by kernel_rfl

end Go.Proofs.Ytcgplbakdflkiaa.Ev
