/- What table L2 has (printed by program, levels.py). -/
import Derived.Test.YtcgplbakdflkiaaAlu2
namespace Go.Proofs.Ytcgplbakdflkiaa.Ev
open Go
noncomputable def L2 : Nat → Option Ent := (up (up L1 7 (.spec (lookG (lookOf L1 7)))) 25 (.spec (lookG (lookOf L1 25))))
theorem okL2 : ∀ f e, L2 f = some e → EntOk Try.prog G f e := (up_ok (up_ok okL1 (lookOf_ok mix okL1 (f := 7) (Has.has (T := L1)))) (lookOf_ok mix okL1 (f := 25) (Has.has (T := L1))))
instance : Has L2 3 (.go F3) := ⟨rfl⟩
instance : Has L2 4 (.go F4) := ⟨rfl⟩
instance : Has L2 5 (.go F5) := ⟨rfl⟩
instance : Has L2 6 (.spec (lookG (lookOf T 6))) := ⟨rfl⟩
instance : Has L2 7 (.spec (lookG (lookOf L1 7))) := ⟨rfl⟩
instance : Has L2 8 (.spec (lookG (lookOf T 8))) := ⟨rfl⟩
instance : Has L2 9 (.pure xTrue) := ⟨rfl⟩
instance : Has L2 10 (.spec (lookG (lookOf T 10))) := ⟨rfl⟩
instance : Has L2 11 (.spec (lookG (lookOf T 11))) := ⟨rfl⟩
instance : Has L2 12 (.spec (lookG (lookOf T 12))) := ⟨rfl⟩
instance : Has L2 13 (.spec (lookG (lookOf T 13))) := ⟨rfl⟩
instance : Has L2 14 (.spec (lookG (lookOf T 14))) := ⟨rfl⟩
instance : Has L2 15 (.spec (lookG (lookOf T 15))) := ⟨rfl⟩
instance : Has L2 16 (.go F16) := ⟨rfl⟩
instance : Has L2 17 (.go F17) := ⟨rfl⟩
instance : Has L2 18 (.go F18) := ⟨rfl⟩
instance : Has L2 19 (.go F19) := ⟨rfl⟩
instance : Has L2 20 (.go F20) := ⟨rfl⟩
instance : Has L2 21 (.spec (lookG (lookOf T 21))) := ⟨rfl⟩
instance : Has L2 22 (.spec (lookG (lookOf T 22))) := ⟨rfl⟩
instance : Has L2 23 (.go F23) := ⟨rfl⟩
instance : Has L2 24 (.go F24) := ⟨rfl⟩
instance : Has L2 25 (.spec (lookG (lookOf L1 25))) := ⟨rfl⟩
instance : Has L2 26 (.go F26) := ⟨rfl⟩
instance : Has L2 27 (.go F27) := ⟨rfl⟩
instance : Has L2 28 (.go F28) := ⟨rfl⟩
instance : Has L2 29 (.go F29) := ⟨rfl⟩
instance : Has L2 30 (.go F30) := ⟨rfl⟩
instance : Has L2 31 (.go F31) := ⟨rfl⟩
instance : Has L2 32 (.go F32) := ⟨rfl⟩
instance : Has L2 33 (.go F33) := ⟨rfl⟩
instance : Has L2 34 (.go F34) := ⟨rfl⟩
instance : Has L2 35 (.go F35) := ⟨rfl⟩
instance : Has L2 36 (.go F36) := ⟨rfl⟩
instance : Has L2 37 (.go F37) := ⟨rfl⟩
instance : Has L2 38 (.go F38) := ⟨rfl⟩
instance : Has L2 39 (.go F39) := ⟨rfl⟩
instance : Has L2 40 (.go F40) := ⟨rfl⟩
instance : Has L2 41 (.go F41) := ⟨rfl⟩
instance : Has L2 42 (.go F42) := ⟨rfl⟩
instance : Has L2 43 (.go F43) := ⟨rfl⟩
instance : Has L2 44 (.go F44) := ⟨rfl⟩
end Go.Proofs.Ytcgplbakdflkiaa.Ev
