/- The table of the given functions, printed by program (EvPut). -/
import Derived.Test.YthlbifjgnhdonaaEvF1
import Derived.Test.YthlbifjgnhdonaaEvExt
namespace Go.Proofs.Ythlbifjgnhdonaa.Ev
open Go
theorem mix : Try.prog.follows .mixedOrders = true := by kernel_rfl
theorem ltG : ∀ g, G.contains g = true → g < 0 := fun g h => by simp [G] at h; try omega
def tree : Bt :=
  (.node 14 (.go F14) (.node 8 (.go F8) (.node 5 (.go F5) (.node 4 (.go F4) (.node 3 (.go F3) .leaf .leaf) .leaf) (.node 7 (.go F7) (.node 6 (.go F6) .leaf .leaf) .leaf)) (.node 11 (.go F11) (.node 10 (.go F10) (.node 9 (.go F9) .leaf .leaf) .leaf) (.node 13 (.go F13) (.node 12 (.go F12) .leaf .leaf) .leaf))) (.node 20 (.go F20) (.node 17 (.go F17) (.node 16 (.go F16) (.node 15 (.go F15) .leaf .leaf) .leaf) (.node 19 (.go F19) (.node 18 (.go F18) .leaf .leaf) .leaf)) (.node 23 (.go F23) (.node 22 (.go F22) (.node 21 (.go F21) .leaf .leaf) .leaf) (.node 25 (.go F25) (.node 24 (.go F24) .leaf .leaf) .leaf))))
def T0 : Nat → Option Ent := tree.find
theorem okT0 : ∀ f e, T0 f = some e → EntOk Try.prog G f e := Bt.find_of (t := tree)
  ⟨⟨_, Try.func14, ok14⟩, ⟨⟨_, Try.func8, ok8⟩, ⟨⟨_, Try.func5, ok5⟩, ⟨⟨_, Try.func4, ok4⟩, ⟨⟨_, Try.func3, ok3⟩, trivial, trivial⟩, trivial⟩, ⟨⟨_, Try.func7, ok7⟩, ⟨⟨_, Try.func6, ok6⟩, trivial, trivial⟩, trivial⟩⟩, ⟨⟨_, Try.func11, ok11⟩, ⟨⟨_, Try.func10, ok10⟩, ⟨⟨_, Try.func9, ok9⟩, trivial, trivial⟩, trivial⟩, ⟨⟨_, Try.func13, ok13⟩, ⟨⟨_, Try.func12, ok12⟩, trivial, trivial⟩, trivial⟩⟩⟩, ⟨⟨_, Try.func20, ok20⟩, ⟨⟨_, Try.func17, ok17⟩, ⟨⟨_, Try.func16, ok16⟩, ⟨⟨_, Try.func15, ok15⟩, trivial, trivial⟩, trivial⟩, ⟨⟨_, Try.func19, ok19⟩, ⟨⟨_, Try.func18, ok18⟩, trivial, trivial⟩, trivial⟩⟩, ⟨⟨_, Try.func23, ok23⟩, ⟨⟨_, Try.func22, ok22⟩, ⟨⟨_, Try.func21, ok21⟩, trivial, trivial⟩, trivial⟩, ⟨⟨_, Try.func25, ok25⟩, ⟨⟨_, Try.func24, ok24⟩, trivial, trivial⟩, trivial⟩⟩⟩⟩
theorem works6 : isTrue (evFun T0 5000 6 [] (mem0 0)) = true := by kernel_rfl
def T1 : Nat → Option Ent := up T0 6 (.pure xTrue)
theorem okT1 : ∀ f e, T1 f = some e → EntOk Try.prog G f e := up_ok okT0 (works_ok mix okT0 (F := F6) rfl ltG works6)
def T : Nat → Option Ent := T1
theorem okT : ∀ f e, T f = some e → EntOk Try.prog G f e := okT1
theorem at3 : T 3 = some (.go F3) := rfl
theorem at4 : T 4 = some (.go F4) := rfl
theorem at5 : T 5 = some (.go F5) := rfl
theorem at6 : T 6 = some (.pure xTrue) := rfl
theorem at7 : T 7 = some (.go F7) := rfl
theorem at8 : T 8 = some (.go F8) := rfl
theorem at9 : T 9 = some (.go F9) := rfl
theorem at10 : T 10 = some (.go F10) := rfl
theorem at11 : T 11 = some (.go F11) := rfl
theorem at12 : T 12 = some (.go F12) := rfl
theorem at13 : T 13 = some (.go F13) := rfl
theorem at14 : T 14 = some (.go F14) := rfl
theorem at15 : T 15 = some (.go F15) := rfl
theorem at16 : T 16 = some (.go F16) := rfl
theorem at17 : T 17 = some (.go F17) := rfl
theorem at18 : T 18 = some (.go F18) := rfl
theorem at19 : T 19 = some (.go F19) := rfl
theorem at20 : T 20 = some (.go F20) := rfl
theorem at21 : T 21 = some (.go F21) := rfl
theorem at22 : T 22 = some (.go F22) := rfl
theorem at23 : T 23 = some (.go F23) := rfl
theorem at24 : T 24 = some (.go F24) := rfl
theorem at25 : T 25 = some (.go F25) := rfl
end Go.Proofs.Ythlbifjgnhdonaa.Ev
