/- What table L4 has (printed by program, levels.py). -/
import Derived.Test.YtcgplbakdflkiaaAlu4
namespace Go.Proofs.Ytcgplbakdflkiaa.Ev
open Go
noncomputable def L4 : Nat → Option Ent := (up L3 16 (.spec (lookG (lookOf L3 16))))
theorem okL4 : ∀ f e, L4 f = some e → EntOk Try.prog G f e := (up_ok okL3 (lookOf_ok mix okL3 (f := 16) (Has.has (T := L3))))
instance : Has L4 3 (.go F3) := ⟨rfl⟩
instance : Has L4 4 (.go F4) := ⟨rfl⟩
instance : Has L4 5 (.go F5) := ⟨rfl⟩
instance : Has L4 6 (.spec (lookG (lookOf T 6))) := ⟨rfl⟩
instance : Has L4 7 (.spec (lookG (lookOf L1 7))) := ⟨rfl⟩
instance : Has L4 8 (.spec (lookG (lookOf T 8))) := ⟨rfl⟩
instance : Has L4 9 (.pure xTrue) := ⟨rfl⟩
instance : Has L4 10 (.spec (lookG (lookOf T 10))) := ⟨rfl⟩
instance : Has L4 11 (.spec (lookG (lookOf T 11))) := ⟨rfl⟩
instance : Has L4 12 (.spec (lookG (lookOf T 12))) := ⟨rfl⟩
instance : Has L4 13 (.spec (lookG (lookOf T 13))) := ⟨rfl⟩
instance : Has L4 14 (.spec (lookG (lookOf T 14))) := ⟨rfl⟩
instance : Has L4 15 (.spec (lookG (lookOf T 15))) := ⟨rfl⟩
instance : Has L4 16 (.spec (lookG (lookOf L3 16))) := ⟨rfl⟩
instance : Has L4 17 (.spec (lookG (lookOf L2 17))) := ⟨rfl⟩
instance : Has L4 18 (.spec (lookG (lookOf L2 18))) := ⟨rfl⟩
instance : Has L4 19 (.spec (lookG (lookOf L2 19))) := ⟨rfl⟩
instance : Has L4 20 (.spec (lookG (lookOf L2 20))) := ⟨rfl⟩
instance : Has L4 21 (.spec (lookG (lookOf T 21))) := ⟨rfl⟩
instance : Has L4 22 (.spec (lookG (lookOf T 22))) := ⟨rfl⟩
instance : Has L4 23 (.spec (lookG (lookOf L2 23))) := ⟨rfl⟩
instance : Has L4 24 (.go F24) := ⟨rfl⟩
instance : Has L4 25 (.spec (lookG (lookOf L1 25))) := ⟨rfl⟩
instance : Has L4 26 (.go F26) := ⟨rfl⟩
instance : Has L4 27 (.go F27) := ⟨rfl⟩
instance : Has L4 28 (.go F28) := ⟨rfl⟩
instance : Has L4 29 (.go F29) := ⟨rfl⟩
instance : Has L4 30 (.go F30) := ⟨rfl⟩
instance : Has L4 31 (.go F31) := ⟨rfl⟩
instance : Has L4 32 (.go F32) := ⟨rfl⟩
instance : Has L4 33 (.go F33) := ⟨rfl⟩
instance : Has L4 34 (.go F34) := ⟨rfl⟩
instance : Has L4 35 (.go F35) := ⟨rfl⟩
instance : Has L4 36 (.go F36) := ⟨rfl⟩
instance : Has L4 37 (.go F37) := ⟨rfl⟩
instance : Has L4 38 (.go F38) := ⟨rfl⟩
instance : Has L4 39 (.go F39) := ⟨rfl⟩
instance : Has L4 40 (.go F40) := ⟨rfl⟩
instance : Has L4 41 (.go F41) := ⟨rfl⟩
instance : Has L4 42 (.go F42) := ⟨rfl⟩
instance : Has L4 43 (.go F43) := ⟨rfl⟩
instance : Has L4 44 (.go F44) := ⟨rfl⟩
end Go.Proofs.Ytcgplbakdflkiaa.Ev
