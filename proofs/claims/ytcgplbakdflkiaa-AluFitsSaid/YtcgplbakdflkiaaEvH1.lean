/- What table L1 has (printed by program, levels.py). -/
import Derived.Test.YtcgplbakdflkiaaAlu1
namespace Go.Proofs.Ytcgplbakdflkiaa.Ev
open Go
noncomputable def L1 : Nat → Option Ent := (up (up (up (up (up (up (up (up (up (up T 8 (.spec (lookG (lookOf T 8)))) 15 (.spec (lookG (lookOf T 15)))) 6 (.spec (lookG (lookOf T 6)))) 10 (.spec (lookG (lookOf T 10)))) 11 (.spec (lookG (lookOf T 11)))) 12 (.spec (lookG (lookOf T 12)))) 13 (.spec (lookG (lookOf T 13)))) 14 (.spec (lookG (lookOf T 14)))) 21 (.spec (lookG (lookOf T 21)))) 22 (.spec (lookG (lookOf T 22))))
theorem okL1 : ∀ f e, L1 f = some e → EntOk Try.prog G f e := (up_ok (up_ok (up_ok (up_ok (up_ok (up_ok (up_ok (up_ok (up_ok (up_ok okT (lookOf_ok mix okT (f := 8) (Has.has (T := T)))) (lookOf_ok mix okT (f := 15) (Has.has (T := T)))) (lookOf_ok mix okT (f := 6) (Has.has (T := T)))) (lookOf_ok mix okT (f := 10) (Has.has (T := T)))) (lookOf_ok mix okT (f := 11) (Has.has (T := T)))) (lookOf_ok mix okT (f := 12) (Has.has (T := T)))) (lookOf_ok mix okT (f := 13) (Has.has (T := T)))) (lookOf_ok mix okT (f := 14) (Has.has (T := T)))) (lookOf_ok mix okT (f := 21) (Has.has (T := T)))) (lookOf_ok mix okT (f := 22) (Has.has (T := T))))
instance : Has L1 3 (.go F3) := ⟨rfl⟩
instance : Has L1 4 (.go F4) := ⟨rfl⟩
instance : Has L1 5 (.go F5) := ⟨rfl⟩
instance : Has L1 6 (.spec (lookG (lookOf T 6))) := ⟨rfl⟩
instance : Has L1 7 (.go F7) := ⟨rfl⟩
instance : Has L1 8 (.spec (lookG (lookOf T 8))) := ⟨rfl⟩
instance : Has L1 9 (.pure xTrue) := ⟨rfl⟩
instance : Has L1 10 (.spec (lookG (lookOf T 10))) := ⟨rfl⟩
instance : Has L1 11 (.spec (lookG (lookOf T 11))) := ⟨rfl⟩
instance : Has L1 12 (.spec (lookG (lookOf T 12))) := ⟨rfl⟩
instance : Has L1 13 (.spec (lookG (lookOf T 13))) := ⟨rfl⟩
instance : Has L1 14 (.spec (lookG (lookOf T 14))) := ⟨rfl⟩
instance : Has L1 15 (.spec (lookG (lookOf T 15))) := ⟨rfl⟩
instance : Has L1 16 (.go F16) := ⟨rfl⟩
instance : Has L1 17 (.go F17) := ⟨rfl⟩
instance : Has L1 18 (.go F18) := ⟨rfl⟩
instance : Has L1 19 (.go F19) := ⟨rfl⟩
instance : Has L1 20 (.go F20) := ⟨rfl⟩
instance : Has L1 21 (.spec (lookG (lookOf T 21))) := ⟨rfl⟩
instance : Has L1 22 (.spec (lookG (lookOf T 22))) := ⟨rfl⟩
instance : Has L1 23 (.go F23) := ⟨rfl⟩
instance : Has L1 24 (.go F24) := ⟨rfl⟩
instance : Has L1 25 (.go F25) := ⟨rfl⟩
instance : Has L1 26 (.go F26) := ⟨rfl⟩
instance : Has L1 27 (.go F27) := ⟨rfl⟩
instance : Has L1 28 (.go F28) := ⟨rfl⟩
instance : Has L1 29 (.go F29) := ⟨rfl⟩
instance : Has L1 30 (.go F30) := ⟨rfl⟩
instance : Has L1 31 (.go F31) := ⟨rfl⟩
instance : Has L1 32 (.go F32) := ⟨rfl⟩
instance : Has L1 33 (.go F33) := ⟨rfl⟩
instance : Has L1 34 (.go F34) := ⟨rfl⟩
instance : Has L1 35 (.go F35) := ⟨rfl⟩
instance : Has L1 36 (.go F36) := ⟨rfl⟩
instance : Has L1 37 (.go F37) := ⟨rfl⟩
instance : Has L1 38 (.go F38) := ⟨rfl⟩
instance : Has L1 39 (.go F39) := ⟨rfl⟩
instance : Has L1 40 (.go F40) := ⟨rfl⟩
instance : Has L1 41 (.go F41) := ⟨rfl⟩
instance : Has L1 42 (.go F42) := ⟨rfl⟩
instance : Has L1 43 (.go F43) := ⟨rfl⟩
instance : Has L1 44 (.go F44) := ⟨rfl⟩
end Go.Proofs.Ytcgplbakdflkiaa.Ev
