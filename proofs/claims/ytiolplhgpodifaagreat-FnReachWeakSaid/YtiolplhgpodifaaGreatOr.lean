/- The order of the texts of rights is that of their keys. Conditions: none. -/
import Derived.Test.YtiolplhgpodifaaGreatB
import Derived.Test.YtiolplhgpodifaaGreatTh
set_option linter.unusedVariables false
set_option linter.unusedSimpArgs false
namespace Drw
open Go Go.RowKit

theorem dig_lt {n m : Int} (h0 : 0 ≤ n) (h1 : n ≤ 9) (k0 : 0 ≤ m) (k1 : m ≤ 9) : dig n < dig m ↔ n < m := by
  have a := dig_inv h0 h1
  have b := dig_inv k0 k1
  rw [UInt8.lt_iff_toNat_lt]
  omega
theorem dig_eq {n m : Int} (h0 : 0 ≤ n) (h1 : n ≤ 9) (k0 : 0 ≤ m) (k1 : m ≤ 9) : dig n = dig m ↔ n = m :=
  ⟨dig_inj h0 h1 k0 k1, fun h => by rw [h]⟩
theorem txt_lt {a b : Rgt} (ha : rgtOk a = true) (hb : rgtOk b = true) (ha0 : a.thing ≠ 0) (hb0 : b.thing ≠ 0) : Op.bytesLess (rgtTxt a) (rgtTxt b) = decide (key a < key b) := by
  obtain ⟨x1, x2, x3, x4⟩ := rgt_bounds ha ha0
  obtain ⟨y1, y2, y3, y4⟩ := rgt_bounds hb hb0
  obtain ⟨a1, a2, a3, a4, a5⟩ := a
  obtain ⟨b1, b2, b3, b4, b5⟩ := b
  dsimp only at x1 x2 x3 x4 y1 y2 y3 y4 ha0 hb0
  obtain ⟨n1, rfl⟩ : ∃ n : Nat, a1 = (n : Int) := ⟨a1.toNat, by omega⟩
  obtain ⟨n2, rfl⟩ : ∃ n : Nat, a2 = (n : Int) := ⟨a2.toNat, by omega⟩
  obtain ⟨m1, rfl⟩ : ∃ n : Nat, b1 = (n : Int) := ⟨b1.toNat, by omega⟩
  obtain ⟨m2, rfl⟩ : ∃ n : Nat, b2 = (n : Int) := ⟨b2.toNat, by omega⟩
  rw [Bool.eq_iff_iff]
  simp only [rgtTxt, ha0, hb0, if_false, Op.bytesLess, Bool.or_eq_true, Bool.and_eq_true, decide_eq_true_eq, beq_iff_eq, dig_lt (n := (n1 : Int)) (m := (m1 : Int)) (by omega) (by omega) (by omega) (by omega), dig_eq (n := (n1 : Int)) (m := (m1 : Int)) (by omega) (by omega) (by omega) (by omega),
    dig_lt (n := (n2 : Int)) (m := (m2 : Int)) (by omega) (by omega) (by omega) (by omega), dig_eq (n := (n2 : Int)) (m := (m2 : Int)) (by omega) (by omega) (by omega) (by omega), key, Int.toNat_natCast]
  have h46 : ¬ ((46 : UInt8) < 46) := by decide
  cases a3 <;> cases b3 <;> cases a4 <;> cases b4 <;> cases a5 <;> cases b5 <;> simp [flagB, bit, h46] <;> (try decide) <;> omega
end Drw
