/- What table T has (printed by program, levels.py). -/
import Derived.Test.YthlbifjgnhdonaaEvT
import Derived.Test.YthlbifjgnhdonaaEvDrw
namespace Go.Proofs.Ythlbifjgnhdonaa.Ev
open Go
instance : Has T 3 (.go F3) := ⟨rfl⟩
instance : Has T 4 (.go F4) := ⟨rfl⟩
instance : Has T 5 (.go F5) := ⟨rfl⟩
instance : Has T 6 (.pure xTrue) := ⟨rfl⟩
instance : Has T 7 (.go F7) := ⟨rfl⟩
instance : Has T 8 (.go F8) := ⟨rfl⟩
instance : Has T 9 (.go F9) := ⟨rfl⟩
instance : Has T 10 (.go F10) := ⟨rfl⟩
instance : Has T 11 (.go F11) := ⟨rfl⟩
instance : Has T 12 (.go F12) := ⟨rfl⟩
instance : Has T 13 (.go F13) := ⟨rfl⟩
instance : Has T 14 (.go F14) := ⟨rfl⟩
instance : Has T 15 (.go F15) := ⟨rfl⟩
instance : Has T 16 (.go F16) := ⟨rfl⟩
instance : Has T 17 (.go F17) := ⟨rfl⟩
instance : Has T 18 (.go F18) := ⟨rfl⟩
instance : Has T 19 (.go F19) := ⟨rfl⟩
instance : Has T 20 (.go F20) := ⟨rfl⟩
instance : Has T 21 (.go F21) := ⟨rfl⟩
instance : Has T 22 (.go F22) := ⟨rfl⟩
instance : Has T 23 (.go F23) := ⟨rfl⟩
instance : Has T 24 (.go F24) := ⟨rfl⟩
instance : Has T 25 (.go F25) := ⟨rfl⟩
end Go.Proofs.Ythlbifjgnhdonaa.Ev
