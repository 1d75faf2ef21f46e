/- The table of the given functions, printed by program (EvPut). -/
import Derived.Test.YtcgplbakdflkiaaEvF2
import Derived.Test.YtcgplbakdflkiaaEvExt
namespace Go.Proofs.Ytcgplbakdflkiaa.Ev
open Go
theorem mix : Try.prog.follows .mixedOrders = true := by kernel_rfl
theorem ltG : ∀ g, G.contains g = true → g < 0 := fun g h => by simp [G] at h; try omega
def tree : Bt :=
  (.node 24 (.go F24) (.node 13 (.go F13) (.node 8 (.go F8) (.node 5 (.go F5) (.node 4 (.go F4) (.node 3 (.go F3) .leaf .leaf) .leaf) (.node 7 (.go F7) (.node 6 (.go F6) .leaf .leaf) .leaf)) (.node 11 (.go F11) (.node 10 (.go F10) (.node 9 (.go F9) .leaf .leaf) .leaf) (.node 12 (.go F12) .leaf .leaf))) (.node 19 (.go F19) (.node 16 (.go F16) (.node 15 (.go F15) (.node 14 (.go F14) .leaf .leaf) .leaf) (.node 18 (.go F18) (.node 17 (.go F17) .leaf .leaf) .leaf)) (.node 22 (.go F22) (.node 21 (.go F21) (.node 20 (.go F20) .leaf .leaf) .leaf) (.node 23 (.go F23) .leaf .leaf)))) (.node 35 (.go F35) (.node 30 (.go F30) (.node 27 (.go F27) (.node 26 (.go F26) (.node 25 (.go F25) .leaf .leaf) .leaf) (.node 29 (.go F29) (.node 28 (.go F28) .leaf .leaf) .leaf)) (.node 33 (.go F33) (.node 32 (.go F32) (.node 31 (.go F31) .leaf .leaf) .leaf) (.node 34 (.go F34) .leaf .leaf))) (.node 40 (.go F40) (.node 38 (.go F38) (.node 37 (.go F37) (.node 36 (.go F36) .leaf .leaf) .leaf) (.node 39 (.go F39) .leaf .leaf)) (.node 43 (.go F43) (.node 42 (.go F42) (.node 41 (.go F41) .leaf .leaf) .leaf) (.node 44 (.go F44) .leaf .leaf)))))
def T0 : Nat → Option Ent := tree.find
theorem okT0 : ∀ f e, T0 f = some e → EntOk Try.prog G f e := Bt.find_of (t := tree)
  ⟨⟨_, Try.func24, ok24⟩, ⟨⟨_, Try.func13, ok13⟩, ⟨⟨_, Try.func8, ok8⟩, ⟨⟨_, Try.func5, ok5⟩, ⟨⟨_, Try.func4, ok4⟩, ⟨⟨_, Try.func3, ok3⟩, trivial, trivial⟩, trivial⟩, ⟨⟨_, Try.func7, ok7⟩, ⟨⟨_, Try.func6, ok6⟩, trivial, trivial⟩, trivial⟩⟩, ⟨⟨_, Try.func11, ok11⟩, ⟨⟨_, Try.func10, ok10⟩, ⟨⟨_, Try.func9, ok9⟩, trivial, trivial⟩, trivial⟩, ⟨⟨_, Try.func12, ok12⟩, trivial, trivial⟩⟩⟩, ⟨⟨_, Try.func19, ok19⟩, ⟨⟨_, Try.func16, ok16⟩, ⟨⟨_, Try.func15, ok15⟩, ⟨⟨_, Try.func14, ok14⟩, trivial, trivial⟩, trivial⟩, ⟨⟨_, Try.func18, ok18⟩, ⟨⟨_, Try.func17, ok17⟩, trivial, trivial⟩, trivial⟩⟩, ⟨⟨_, Try.func22, ok22⟩, ⟨⟨_, Try.func21, ok21⟩, ⟨⟨_, Try.func20, ok20⟩, trivial, trivial⟩, trivial⟩, ⟨⟨_, Try.func23, ok23⟩, trivial, trivial⟩⟩⟩⟩, ⟨⟨_, Try.func35, ok35⟩, ⟨⟨_, Try.func30, ok30⟩, ⟨⟨_, Try.func27, ok27⟩, ⟨⟨_, Try.func26, ok26⟩, ⟨⟨_, Try.func25, ok25⟩, trivial, trivial⟩, trivial⟩, ⟨⟨_, Try.func29, ok29⟩, ⟨⟨_, Try.func28, ok28⟩, trivial, trivial⟩, trivial⟩⟩, ⟨⟨_, Try.func33, ok33⟩, ⟨⟨_, Try.func32, ok32⟩, ⟨⟨_, Try.func31, ok31⟩, trivial, trivial⟩, trivial⟩, ⟨⟨_, Try.func34, ok34⟩, trivial, trivial⟩⟩⟩, ⟨⟨_, Try.func40, ok40⟩, ⟨⟨_, Try.func38, ok38⟩, ⟨⟨_, Try.func37, ok37⟩, ⟨⟨_, Try.func36, ok36⟩, trivial, trivial⟩, trivial⟩, ⟨⟨_, Try.func39, ok39⟩, trivial, trivial⟩⟩, ⟨⟨_, Try.func43, ok43⟩, ⟨⟨_, Try.func42, ok42⟩, ⟨⟨_, Try.func41, ok41⟩, trivial, trivial⟩, trivial⟩, ⟨⟨_, Try.func44, ok44⟩, trivial, trivial⟩⟩⟩⟩⟩
theorem works9 : isTrue (evFun T0 5000 9 [] (mem0 0)) = true := by kernel_rfl
def T1 : Nat → Option Ent := up T0 9 (.pure xTrue)
theorem okT1 : ∀ f e, T1 f = some e → EntOk Try.prog G f e := up_ok okT0 (works_ok mix okT0 (F := F9) rfl ltG works9)
def T : Nat → Option Ent := T1
theorem okT : ∀ f e, T f = some e → EntOk Try.prog G f e := okT1
theorem at3 : T 3 = some (.go F3) := rfl
theorem at4 : T 4 = some (.go F4) := rfl
theorem at5 : T 5 = some (.go F5) := rfl
theorem at6 : T 6 = some (.go F6) := rfl
theorem at7 : T 7 = some (.go F7) := rfl
theorem at8 : T 8 = some (.go F8) := rfl
theorem at9 : T 9 = some (.pure xTrue) := rfl
theorem at10 : T 10 = some (.go F10) := rfl
theorem at11 : T 11 = some (.go F11) := rfl
theorem at12 : T 12 = some (.go F12) := rfl
theorem at13 : T 13 = some (.go F13) := rfl
theorem at14 : T 14 = some (.go F14) := rfl
theorem at15 : T 15 = some (.go F15) := rfl
theorem at16 : T 16 = some (.go F16) := rfl
theorem at17 : T 17 = some (.go F17) := rfl
theorem at18 : T 18 = some (.go F18) := rfl
theorem at19 : T 19 = some (.go F19) := rfl
theorem at20 : T 20 = some (.go F20) := rfl
theorem at21 : T 21 = some (.go F21) := rfl
theorem at22 : T 22 = some (.go F22) := rfl
theorem at23 : T 23 = some (.go F23) := rfl
theorem at24 : T 24 = some (.go F24) := rfl
theorem at25 : T 25 = some (.go F25) := rfl
theorem at26 : T 26 = some (.go F26) := rfl
theorem at27 : T 27 = some (.go F27) := rfl
theorem at28 : T 28 = some (.go F28) := rfl
theorem at29 : T 29 = some (.go F29) := rfl
theorem at30 : T 30 = some (.go F30) := rfl
theorem at31 : T 31 = some (.go F31) := rfl
theorem at32 : T 32 = some (.go F32) := rfl
theorem at33 : T 33 = some (.go F33) := rfl
theorem at34 : T 34 = some (.go F34) := rfl
theorem at35 : T 35 = some (.go F35) := rfl
theorem at36 : T 36 = some (.go F36) := rfl
theorem at37 : T 37 = some (.go F37) := rfl
theorem at38 : T 38 = some (.go F38) := rfl
theorem at39 : T 39 = some (.go F39) := rfl
theorem at40 : T 40 = some (.go F40) := rfl
theorem at41 : T 41 = some (.go F41) := rfl
theorem at42 : T 42 = some (.go F42) := rfl
theorem at43 : T 43 = some (.go F43) := rfl
theorem at44 : T 44 = some (.go F44) := rfl
end Go.Proofs.Ytcgplbakdflkiaa.Ev
