/- '<=' on texts is the negation of '<' the other way round. -/
import Derived.Test.YtcdnmpajobhdcaaXB
import Derived.WalkLawsBesides
namespace Go.Proofs.Ytcdnmpajobhdcaa.XB
theorem leq_not : ∀ (x y : List UInt8), (Op.bytesLess x y || x == y) = !(Op.bytesLess y x)
  | [], [] => rfl
  | [], _ :: _ => rfl
  | _ :: _, [] => rfl
  | a :: x, b :: y => by
    have h := leq_not x y
    have e : (a :: x == b :: y) = (a == b && x == y) := rfl
    unfold Op.bytesLess
    rw [e]
    rcases Nat.lt_trichotomy a.toNat b.toNat with c | c | c
    · have c1 : decide (a < b) = true := decide_eq_true (UInt8.lt_iff_toNat_lt.mpr c)
      have c2 : decide (b < a) = false := decide_eq_false (fun h => by have := UInt8.lt_iff_toNat_lt.mp h; omega)
      have c3 : (b == a) = false := beq_eq_false_iff_ne.mpr (fun h => by rw [h] at c; omega)
      rw [c1, c2, c3]; rfl
    · have hab : a = b := UInt8.toNat_inj.mp c
      subst hab
      have c1 : decide (a < a) = false := decide_eq_false (fun h => by have := UInt8.lt_iff_toNat_lt.mp h; omega)
      rw [c1, beq_self_eq_true, Bool.true_and, Bool.false_or, Bool.true_and, Bool.false_or, h]
      rfl
    · have c1 : decide (b < a) = true := decide_eq_true (UInt8.lt_iff_toNat_lt.mpr c)
      have c2 : decide (a < b) = false := decide_eq_false (fun h => by have := UInt8.lt_iff_toNat_lt.mp h; omega)
      have c3 : (a == b) = false := beq_eq_false_iff_ne.mpr (fun h => by rw [h] at c; omega)
      rw [c1, c2, c3]; rfl
theorem leq_of_less {x y : List UInt8} {b : Bool} (h : Op.bytesLess y x = b) : (Op.bytesLess x y || x == y) = !b := by rw [leq_not, h]
end Go.Proofs.Ytcdnmpajobhdcaa.XB
