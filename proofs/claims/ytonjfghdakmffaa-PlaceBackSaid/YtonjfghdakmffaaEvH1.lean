/- What table L1 has (printed by program, levels.py). -/
import Derived.Test.YtonjfghdakmffaaPlace3
namespace Go.Proofs.Ytonjfghdakmffaa.Ev
open Go
noncomputable def L1 : Nat → Option Ent := (up (up (up (up (up (up T 6 (.spec (lookG (lookOf T 6)))) 7 (.spec (lookG (lookOf T 7)))) 8 (.spec (lookG (lookOf T 8)))) 9 (.spec (lookG (lookOf T 9)))) 10 (.spec (lookG (lookOf T 10)))) 11 (.spec (lookG (lookOf T 11))))
theorem okL1 : ∀ f e, L1 f = some e → EntOk Try.prog G f e := (up_ok (up_ok (up_ok (up_ok (up_ok (up_ok okT (lookOf_ok mix okT (f := 6) (Has.has (T := T)))) (lookOf_ok mix okT (f := 7) (Has.has (T := T)))) (lookOf_ok mix okT (f := 8) (Has.has (T := T)))) (lookOf_ok mix okT (f := 9) (Has.has (T := T)))) (lookOf_ok mix okT (f := 10) (Has.has (T := T)))) (lookOf_ok mix okT (f := 11) (Has.has (T := T))))
instance : Has L1 3 (.go F3) := ⟨rfl⟩
instance : Has L1 4 (.go F4) := ⟨rfl⟩
instance : Has L1 5 (.pure xTrue) := ⟨rfl⟩
instance : Has L1 6 (.spec (lookG (lookOf T 6))) := ⟨rfl⟩
instance : Has L1 7 (.spec (lookG (lookOf T 7))) := ⟨rfl⟩
instance : Has L1 8 (.spec (lookG (lookOf T 8))) := ⟨rfl⟩
instance : Has L1 9 (.spec (lookG (lookOf T 9))) := ⟨rfl⟩
instance : Has L1 10 (.spec (lookG (lookOf T 10))) := ⟨rfl⟩
instance : Has L1 11 (.spec (lookG (lookOf T 11))) := ⟨rfl⟩
instance : Has L1 12 (.go F12) := ⟨rfl⟩
instance : Has L1 13 (.go F13) := ⟨rfl⟩
instance : Has L1 14 (.go F14) := ⟨rfl⟩
instance : Has L1 15 (.go F15) := ⟨rfl⟩
instance : Has L1 16 (.go F16) := ⟨rfl⟩
instance : Has L1 17 (.go F17) := ⟨rfl⟩
instance : Has L1 19 (.ext xCount) := ⟨rfl⟩
instance : Has L1 20 (.go F20) := ⟨rfl⟩
instance : Has L1 21 (.go F21) := ⟨rfl⟩
instance : Has L1 22 (.go F22) := ⟨rfl⟩
instance : Has L1 23 (.go F23) := ⟨rfl⟩
instance : Has L1 24 (.go F24) := ⟨rfl⟩
instance : Has L1 25 (.ext xIndexByte) := ⟨rfl⟩
instance : Has L1 27 (.go F27) := ⟨rfl⟩
instance : Has L1 28 (.go F28) := ⟨rfl⟩
instance : Has L1 29 (.go F29) := ⟨rfl⟩
end Go.Proofs.Ytonjfghdakmffaa.Ev
