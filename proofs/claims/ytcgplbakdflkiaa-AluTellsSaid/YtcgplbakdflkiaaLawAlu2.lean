/- AluTells, AluMakes, AluFits: the laws' own code tells true, of what comes in. -/
import Derived.Test.YtcgplbakdflkiaaLawAlu
import Derived.Test.YtcgplbakdflkiaaEvIn
namespace Go.Proofs.Ytcgplbakdflkiaa.Ev
open Go
theorem fit_of {n : Int} (h : (Lit.int .i64 n).wf = true) : fits n := by
  simp [Lit.wf, IntKind.min, IntKind.max, IntKind.signed, IntKind.bits] at h; unfold fits; omega
theorem fit8_of {n : Int} (h : (Lit.int .u8 n).wf = true) : 0 ≤ n ∧ n < 256 := by
  simp [Lit.wf, IntKind.min, IntKind.max, IntKind.signed, IntKind.bits] at h; omega
theorem rep_int {m : Mem} {k : IntKind} {e : EV} {d : Dt} (h : RepV m (.int k) e d) : ∃ n, e = .int k n ∧ (Lit.int k n).wf = true := by
  unfold RepV at h; cases h with | int hw => exact ⟨_, rfl, hw⟩
theorem rep_bool {m : Mem} {e : EV} {d : Dt} (h : RepV m .bool e d) : ∃ p, e = bo p := by
  unfold RepV at h; cases h with | bool b => exact ⟨b = true, bo_bool.symm⟩
theorem rep_vv {m : Mem} {e : EV} {d : Dt} (h : RepV m (.struct [.int .i64, .int .i64]) e d) : ∃ k n, e = vv k n ∧ fits k ∧ fits n := by
  obtain ⟨cs, rfl, h⟩ := h
  cases h with
  | struct h =>
  cases h with
  | cons h1 h =>
  cases h with
  | cons h2 h =>
  cases h
  cases h1 with
  | int w1 =>
  cases h2 with
  | int w2 => exact ⟨_, _, rfl, fit_of w1, fit_of w2⟩
theorem tells_in {m : Mem} {es : List EV} {ds : List Dt} (h : RepVs m [.int .i64, .struct [.int .i64, .int .i64], .struct [.int .i64, .int .i64]] es ds) : ∃ m', run L4 5 es m = some (.ret (.bool true) m') := by
  cases h with
  | cons h1 h =>
  cases h with
  | cons h2 h =>
  cases h with
  | cons h3 h =>
  cases h
  obtain ⟨op, rfl, _⟩ := rep_int h1
  obtain ⟨k, n, rfl, _, f1⟩ := rep_vv h2
  obtain ⟨k', n', rfl, _, f2⟩ := rep_vv h3
  exact lawTells_run f1 f2 m
theorem makes_in {m : Mem} {es : List EV} {ds : List Dt} (h : RepVs m [.int .i64, .bool, .int .i64, .struct [.int .i64, .int .i64]] es ds) : ∃ m', run L4 4 es m = some (.ret (.bool true) m') := by
  cases h with
  | cons h1 h =>
  cases h with
  | cons h2 h =>
  cases h with
  | cons h3 h =>
  cases h with
  | cons h4 h =>
  cases h
  obtain ⟨n, rfl, _⟩ := rep_int h1
  obtain ⟨p, rfl⟩ := rep_bool h2
  obtain ⟨k, rfl, _⟩ := rep_int h3
  obtain ⟨k', n', rfl, _, f2⟩ := rep_vv h4
  exact lawMakes_run m
theorem fits_in {m : Mem} {es : List EV} {ds : List Dt} (h : RepVs m [.int .i64, .int .i64, .int .u8] es ds) : ∃ m', run L4 3 es m = some (.ret (.bool true) m') := by
  cases h with
  | cons h1 h =>
  cases h with
  | cons h2 h =>
  cases h with
  | cons h3 h =>
  cases h
  obtain ⟨a, rfl, f1⟩ := rep_int h1
  obtain ⟨b, rfl, f2⟩ := rep_int h2
  obtain ⟨op, rfl, f3⟩ := rep_int h3
  exact lawFits_run (fit_of f1) (fit_of f2) (fit8_of f3) m
end Go.Proofs.Ytcgplbakdflkiaa.Ev
