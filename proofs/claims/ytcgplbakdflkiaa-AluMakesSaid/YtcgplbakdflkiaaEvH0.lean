/- What table T has (printed by program, levels.py). -/
import Derived.Test.YtcgplbakdflkiaaEvT
import Derived.Test.YtcgplbakdflkiaaEvDrw
namespace Go.Proofs.Ytcgplbakdflkiaa.Ev
open Go
instance : Has T 3 (.go F3) := ⟨rfl⟩
instance : Has T 4 (.go F4) := ⟨rfl⟩
instance : Has T 5 (.go F5) := ⟨rfl⟩
instance : Has T 6 (.go F6) := ⟨rfl⟩
instance : Has T 7 (.go F7) := ⟨rfl⟩
instance : Has T 8 (.go F8) := ⟨rfl⟩
instance : Has T 9 (.pure xTrue) := ⟨rfl⟩
instance : Has T 10 (.go F10) := ⟨rfl⟩
instance : Has T 11 (.go F11) := ⟨rfl⟩
instance : Has T 12 (.go F12) := ⟨rfl⟩
instance : Has T 13 (.go F13) := ⟨rfl⟩
instance : Has T 14 (.go F14) := ⟨rfl⟩
instance : Has T 15 (.go F15) := ⟨rfl⟩
instance : Has T 16 (.go F16) := ⟨rfl⟩
instance : Has T 17 (.go F17) := ⟨rfl⟩
instance : Has T 18 (.go F18) := ⟨rfl⟩
instance : Has T 19 (.go F19) := ⟨rfl⟩
instance : Has T 20 (.go F20) := ⟨rfl⟩
instance : Has T 21 (.go F21) := ⟨rfl⟩
instance : Has T 22 (.go F22) := ⟨rfl⟩
instance : Has T 23 (.go F23) := ⟨rfl⟩
instance : Has T 24 (.go F24) := ⟨rfl⟩
instance : Has T 25 (.go F25) := ⟨rfl⟩
instance : Has T 26 (.go F26) := ⟨rfl⟩
instance : Has T 27 (.go F27) := ⟨rfl⟩
instance : Has T 28 (.go F28) := ⟨rfl⟩
instance : Has T 29 (.go F29) := ⟨rfl⟩
instance : Has T 30 (.go F30) := ⟨rfl⟩
instance : Has T 31 (.go F31) := ⟨rfl⟩
instance : Has T 32 (.go F32) := ⟨rfl⟩
instance : Has T 33 (.go F33) := ⟨rfl⟩
instance : Has T 34 (.go F34) := ⟨rfl⟩
instance : Has T 35 (.go F35) := ⟨rfl⟩
instance : Has T 36 (.go F36) := ⟨rfl⟩
instance : Has T 37 (.go F37) := ⟨rfl⟩
instance : Has T 38 (.go F38) := ⟨rfl⟩
instance : Has T 39 (.go F39) := ⟨rfl⟩
instance : Has T 40 (.go F40) := ⟨rfl⟩
instance : Has T 41 (.go F41) := ⟨rfl⟩
instance : Has T 42 (.go F42) := ⟨rfl⟩
instance : Has T 43 (.go F43) := ⟨rfl⟩
instance : Has T 44 (.go F44) := ⟨rfl⟩
end Go.Proofs.Ytcgplbakdflkiaa.Ev
