/- Arrays of four: equal, part by part. -/
import Derived.Test.YtkghkkfcgegmeaaMem
import Derived.Laws.StructEq
namespace Go.Proofs.Ytkghkkfcgegmeaa
open Go.RowKit
set_option linter.unusedVariables false
set_option linter.unusedSimpArgs false

theorem equalIn_arr4 {P : Program} {t e : TypeId} (d : Nat) (ht : P.underlying t = some (.array 4 e)) (hs : ∀ w, (sizeOf e).run P w = .ok 1 w)
    (p0 : ∀ (a b c d : Value) w, (part e #[a, b, c, d] 0).run P w = .ok a w) (p1 : ∀ (a b c d : Value) w, (part e #[a, b, c, d] 1).run P w = .ok b w) (p2 : ∀ (a b c d : Value) w, (part e #[a, b, c, d] 2).run P w = .ok c w) (p3 : ∀ (a b c d : Value) w, (part e #[a, b, c, d] 3).run P w = .ok d w)
    {x0 x1 x2 x3 y0 y1 y2 y3 : Value} {b0 b1 b2 b3 : Bool}
    (h0 : ∀ w, (Op.equalIn d e x0 y0).run P w = .ok b0 w) (h1 : ∀ w, (Op.equalIn d e x1 y1).run P w = .ok b1 w) (h2 : ∀ w, (Op.equalIn d e x2 y2).run P w = .ok b2 w) (h3 : ∀ w, (Op.equalIn d e x3 y3).run P w = .ok b3 w) (w : World) :
    (Op.equalIn (d + 1) t (.agg #[x0, x1, x2, x3]) (.agg #[y0, y1, y2, y3])).run P w = .ok (b0 && b1 && b2 && b3) w := by
  simp only [Op.equalIn, Sem.run_bind, run_underlying ht, Result.andThen_ok, hs]
  simp only [Std.Legacy.Range.forIn_eq_forIn_range', Std.Legacy.Range.size]
  rw [show List.range' 0 ((4 - 0 + 1 - 1) / 1) 1 = [0, 1, 2, 3] from rfl]
  cases b0 <;> cases b1 <;> cases b2 <;> cases b3 <;> simp [p0, p1, p2, p3, h0, h1, h2, h3]
end Go.Proofs.Ytkghkkfcgegmeaa
