/- Signs of what is reckoned bit by bit. -/
import Derived.Test.YtcgplbakdflkiaaEvSym
namespace Go.Proofs.Ytcgplbakdflkiaa.Ev
open Go
theorem wrap_neg (x : BitVec 64) : IntKind.i64.wrap (x.toNat : Int) < 0 ↔ x.msb = true := by
  have h := x.isLt
  rw [i64_wrap, BitVec.msb_eq_decide, decide_eq_true_eq]
  split <;> omega
theorem ofInt_msb {n : Int} (h1 : -9223372036854775808 ≤ n) (h2 : n < 9223372036854775808) : (BitVec.ofInt 64 n).msb = decide (n < 0) := by
  rw [BitVec.msb_eq_decide, BitVec.toNat_ofInt]
  by_cases h : n < 0
  · rw [decide_eq_true h, decide_eq_true_eq]; omega
  · rw [decide_eq_false h, decide_eq_false_iff_not]; omega
theorem ixor_neg {a b : Int} (h1 : -9223372036854775808 ≤ a) (h2 : a < 9223372036854775808) (h3 : -9223372036854775808 ≤ b) (h4 : b < 9223372036854775808) : ixor .i64 a b < 0 ↔ (a < 0 ∧ 0 ≤ b ∨ 0 ≤ a ∧ b < 0) := by
  show IntKind.i64.wrap ((BitVec.ofInt 64 a ^^^ BitVec.ofInt 64 b).toNat : Int) < 0 ↔ _
  rw [wrap_neg, BitVec.msb_xor, ofInt_msb h1 h2, ofInt_msb h3 h4]
  by_cases ha : a < 0 <;> by_cases hb : b < 0 <;> simp [ha, hb] <;> omega
theorem iand_neg {a b : Int} (h1 : -9223372036854775808 ≤ a) (h2 : a < 9223372036854775808) (h3 : -9223372036854775808 ≤ b) (h4 : b < 9223372036854775808) : iand .i64 a b < 0 ↔ (a < 0 ∧ b < 0) := by
  show IntKind.i64.wrap ((BitVec.ofInt 64 a &&& BitVec.ofInt 64 b).toNat : Int) < 0 ↔ _
  rw [wrap_neg, BitVec.msb_and, ofInt_msb h1 h2, ofInt_msb h3 h4]
  by_cases ha : a < 0 <;> by_cases hb : b < 0 <;> simp [ha, hb]
theorem wrap_fits (n : Int) : -9223372036854775808 ≤ IntKind.i64.wrap n ∧ IntKind.i64.wrap n < 9223372036854775808 := by
  rw [i64_wrap]; split <;> omega
theorem ixor_fits (a b : Int) : -9223372036854775808 ≤ ixor .i64 a b ∧ ixor .i64 a b < 9223372036854775808 := wrap_fits _
end Go.Proofs.Ytcgplbakdflkiaa.Ev
