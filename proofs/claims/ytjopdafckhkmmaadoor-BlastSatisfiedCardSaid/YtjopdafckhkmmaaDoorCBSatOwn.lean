/- Small laws of our own that the walks of this claim use as rules: Go's '>' on two strings, told as '<' turned round. No condition. -/
import Derived.Test.YtjopdafckhkmmaaDoorCBSatV
namespace Go.Proofs.YtjopdafckhkmmaaDoor.OwnWords
theorem bytesLess_turn : ∀ a b : List UInt8, (!(Op.bytesLess a b || a == b)) = Op.bytesLess b a
  | [], [] => rfl
  | [], _ :: _ => rfl
  | _ :: _, [] => rfl
  | x :: a, y :: b => by
    have ih := bytesLess_turn a b
    simp only [Op.bytesLess, List.cons_beq_cons]
    by_cases h : x = y
    · subst h
      simp only [BEq.rfl, Bool.true_and]
      have hx : ¬ x < x := by simp
      simp only [hx, decide_false, Bool.false_or]
      exact ih
    · have h1 : (x == y) = false := by simpa using h
      have h2 : (y == x) = false := by simpa using fun e : y = x => h e.symm
      simp only [h1, h2, Bool.false_and, Bool.or_false]
      rcases Nat.lt_or_gt_of_ne (fun e : x.toNat = y.toNat => h (UInt8.toNat_inj.1 e)) with hlt | hlt
      · have a1 : x < y := UInt8.lt_iff_toNat_lt.2 hlt
        have a2 : ¬ y < x := fun e => by have := UInt8.lt_iff_toNat_lt.1 e; omega
        simp [a1, a2]
      · have a1 : y < x := UInt8.lt_iff_toNat_lt.2 hlt
        have a2 : ¬ x < y := fun e => by have := UInt8.lt_iff_toNat_lt.1 e; omega
        simp [a1, a2]
/-- Go's '>' on strings. -/
@[go_sem] theorem own_string_gtr (t : TypeId) (a b : ByteArray) : binOp .gtr t (.string a) (.string b) = pure (.bool (Op.bytesLess b.toList a.toList)) := by
  rw [← bytesLess_turn]
  simp [binOp, Op.stringOp]
@[go_sem] theorem own_string_geq (t : TypeId) (a b : ByteArray) : binOp .geq t (.string a) (.string b) = pure (.bool (!(Op.bytesLess a.toList b.toList))) := by
  simp [binOp, Op.stringOp]
@[go_sem] theorem own_string_leq (t : TypeId) (a b : ByteArray) : binOp .leq t (.string a) (.string b) = pure (.bool (!(Op.bytesLess b.toList a.toList))) := by
  rw [← bytesLess_turn a.toList b.toList, Bool.not_not]
  simp [binOp, Op.stringOp]
end Go.Proofs.YtjopdafckhkmmaaDoor.OwnWords
