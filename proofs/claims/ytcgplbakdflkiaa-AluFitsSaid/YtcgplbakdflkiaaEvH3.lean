/- What table L3 has (printed by program, levels.py). -/
import Derived.Test.YtcgplbakdflkiaaAlu3
namespace Go.Proofs.Ytcgplbakdflkiaa.Ev
open Go
noncomputable def L3 : Nat → Option Ent := (up (up (up (up (up L2 23 (.spec (lookG (lookOf L2 23)))) 17 (.spec (lookG (lookOf L2 17)))) 18 (.spec (lookG (lookOf L2 18)))) 19 (.spec (lookG (lookOf L2 19)))) 20 (.spec (lookG (lookOf L2 20))))
theorem okL3 : ∀ f e, L3 f = some e → EntOk Try.prog G f e := (up_ok (up_ok (up_ok (up_ok (up_ok okL2 (lookOf_ok mix okL2 (f := 23) (Has.has (T := L2)))) (lookOf_ok mix okL2 (f := 17) (Has.has (T := L2)))) (lookOf_ok mix okL2 (f := 18) (Has.has (T := L2)))) (lookOf_ok mix okL2 (f := 19) (Has.has (T := L2)))) (lookOf_ok mix okL2 (f := 20) (Has.has (T := L2))))
instance : Has L3 3 (.go F3) := ⟨rfl⟩
instance : Has L3 4 (.go F4) := ⟨rfl⟩
instance : Has L3 5 (.go F5) := ⟨rfl⟩
instance : Has L3 6 (.spec (lookG (lookOf T 6))) := ⟨rfl⟩
instance : Has L3 7 (.spec (lookG (lookOf L1 7))) := ⟨rfl⟩
instance : Has L3 8 (.spec (lookG (lookOf T 8))) := ⟨rfl⟩
instance : Has L3 9 (.pure xTrue) := ⟨rfl⟩
instance : Has L3 10 (.spec (lookG (lookOf T 10))) := ⟨rfl⟩
instance : Has L3 11 (.spec (lookG (lookOf T 11))) := ⟨rfl⟩
instance : Has L3 12 (.spec (lookG (lookOf T 12))) := ⟨rfl⟩
instance : Has L3 13 (.spec (lookG (lookOf T 13))) := ⟨rfl⟩
instance : Has L3 14 (.spec (lookG (lookOf T 14))) := ⟨rfl⟩
instance : Has L3 15 (.spec (lookG (lookOf T 15))) := ⟨rfl⟩
instance : Has L3 16 (.go F16) := ⟨rfl⟩
instance : Has L3 17 (.spec (lookG (lookOf L2 17))) := ⟨rfl⟩
instance : Has L3 18 (.spec (lookG (lookOf L2 18))) := ⟨rfl⟩
instance : Has L3 19 (.spec (lookG (lookOf L2 19))) := ⟨rfl⟩
instance : Has L3 20 (.spec (lookG (lookOf L2 20))) := ⟨rfl⟩
instance : Has L3 21 (.spec (lookG (lookOf T 21))) := ⟨rfl⟩
instance : Has L3 22 (.spec (lookG (lookOf T 22))) := ⟨rfl⟩
instance : Has L3 23 (.spec (lookG (lookOf L2 23))) := ⟨rfl⟩
instance : Has L3 24 (.go F24) := ⟨rfl⟩
instance : Has L3 25 (.spec (lookG (lookOf L1 25))) := ⟨rfl⟩
instance : Has L3 26 (.go F26) := ⟨rfl⟩
instance : Has L3 27 (.go F27) := ⟨rfl⟩
instance : Has L3 28 (.go F28) := ⟨rfl⟩
instance : Has L3 29 (.go F29) := ⟨rfl⟩
instance : Has L3 30 (.go F30) := ⟨rfl⟩
instance : Has L3 31 (.go F31) := ⟨rfl⟩
instance : Has L3 32 (.go F32) := ⟨rfl⟩
instance : Has L3 33 (.go F33) := ⟨rfl⟩
instance : Has L3 34 (.go F34) := ⟨rfl⟩
instance : Has L3 35 (.go F35) := ⟨rfl⟩
instance : Has L3 36 (.go F36) := ⟨rfl⟩
instance : Has L3 37 (.go F37) := ⟨rfl⟩
instance : Has L3 38 (.go F38) := ⟨rfl⟩
instance : Has L3 39 (.go F39) := ⟨rfl⟩
instance : Has L3 40 (.go F40) := ⟨rfl⟩
instance : Has L3 41 (.go F41) := ⟨rfl⟩
instance : Has L3 42 (.go F42) := ⟨rfl⟩
instance : Has L3 43 (.go F43) := ⟨rfl⟩
instance : Has L3 44 (.go F44) := ⟨rfl⟩
end Go.Proofs.Ytcgplbakdflkiaa.Ev
