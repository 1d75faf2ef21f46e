/- What table K1 has (printed by program, levels.py). -/
import Derived.Test.YtjegondbhejpcaaNone1
namespace Go.Proofs.Ytjegondbhejpcaa.Ev
open Go
noncomputable def K1 : Nat → Option Ent := (up (up (up (up T 21 (.spec (lookG (lookOf T 21)))) 20 (.spec (lookG (lookOf T 20)))) 12 (.spec (lookG (lookOf T 12)))) 10 (.spec (lookG (lookOf T 10))))
theorem okK1 : ∀ f e, K1 f = some e → EntOk Try.prog G f e := (up_ok (up_ok (up_ok (up_ok okT (lookOf_ok mix okT (f := 21) (Has.has (T := T)))) (lookOf_ok mix okT (f := 20) (Has.has (T := T)))) (lookOf_ok mix okT (f := 12) (Has.has (T := T)))) (lookOf_ok mix okT (f := 10) (Has.has (T := T))))
instance : Has K1 3 (.go F3) := ⟨rfl⟩
instance : Has K1 4 (.go F4) := ⟨rfl⟩
instance : Has K1 5 (.go F5) := ⟨rfl⟩
instance : Has K1 6 (.pure xTrue) := ⟨rfl⟩
instance : Has K1 7 (.go F7) := ⟨rfl⟩
instance : Has K1 8 (.go F8) := ⟨rfl⟩
instance : Has K1 9 (.go F9) := ⟨rfl⟩
instance : Has K1 10 (.spec (lookG (lookOf T 10))) := ⟨rfl⟩
instance : Has K1 11 (.go F11) := ⟨rfl⟩
instance : Has K1 12 (.spec (lookG (lookOf T 12))) := ⟨rfl⟩
instance : Has K1 13 (.go F13) := ⟨rfl⟩
instance : Has K1 14 (.go F14) := ⟨rfl⟩
instance : Has K1 15 (.go F15) := ⟨rfl⟩
instance : Has K1 16 (.go F16) := ⟨rfl⟩
instance : Has K1 17 (.go F17) := ⟨rfl⟩
instance : Has K1 18 (.go F18) := ⟨rfl⟩
instance : Has K1 19 (.go F19) := ⟨rfl⟩
instance : Has K1 20 (.spec (lookG (lookOf T 20))) := ⟨rfl⟩
instance : Has K1 21 (.spec (lookG (lookOf T 21))) := ⟨rfl⟩
end Go.Proofs.Ytjegondbhejpcaa.Ev
