/- What table K2 has (printed by program, levels.py). -/
import Derived.Test.YtjegondbhejpcaaNone2
namespace Go.Proofs.Ytjegondbhejpcaa.Ev
open Go
noncomputable def K2 : Nat → Option Ent := (up (up (up (up K1 11 (.spec (lookG (lookOf K1 11)))) 15 (.spec (lookG (lookOf K1 15)))) 9 (.spec (lookG (lookOf K1 9)))) 13 (.spec (lookG (lookOf K1 13))))
theorem okK2 : ∀ f e, K2 f = some e → EntOk Try.prog G f e := (up_ok (up_ok (up_ok (up_ok okK1 (lookOf_ok mix okK1 (f := 11) (Has.has (T := K1)))) (lookOf_ok mix okK1 (f := 15) (Has.has (T := K1)))) (lookOf_ok mix okK1 (f := 9) (Has.has (T := K1)))) (lookOf_ok mix okK1 (f := 13) (Has.has (T := K1))))
instance : Has K2 3 (.go F3) := ⟨rfl⟩
instance : Has K2 4 (.go F4) := ⟨rfl⟩
instance : Has K2 5 (.go F5) := ⟨rfl⟩
instance : Has K2 6 (.pure xTrue) := ⟨rfl⟩
instance : Has K2 7 (.go F7) := ⟨rfl⟩
instance : Has K2 8 (.go F8) := ⟨rfl⟩
instance : Has K2 9 (.spec (lookG (lookOf K1 9))) := ⟨rfl⟩
instance : Has K2 10 (.spec (lookG (lookOf T 10))) := ⟨rfl⟩
instance : Has K2 11 (.spec (lookG (lookOf K1 11))) := ⟨rfl⟩
instance : Has K2 12 (.spec (lookG (lookOf T 12))) := ⟨rfl⟩
instance : Has K2 13 (.spec (lookG (lookOf K1 13))) := ⟨rfl⟩
instance : Has K2 14 (.go F14) := ⟨rfl⟩
instance : Has K2 15 (.spec (lookG (lookOf K1 15))) := ⟨rfl⟩
instance : Has K2 16 (.go F16) := ⟨rfl⟩
instance : Has K2 17 (.go F17) := ⟨rfl⟩
instance : Has K2 18 (.go F18) := ⟨rfl⟩
instance : Has K2 19 (.go F19) := ⟨rfl⟩
instance : Has K2 20 (.spec (lookG (lookOf T 20))) := ⟨rfl⟩
instance : Has K2 21 (.spec (lookG (lookOf T 21))) := ⟨rfl⟩
end Go.Proofs.Ytjegondbhejpcaa.Ev
