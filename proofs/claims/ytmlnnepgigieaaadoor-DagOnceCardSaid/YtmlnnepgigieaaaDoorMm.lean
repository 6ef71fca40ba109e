/- The greater and the lesser of two integers. No program here. -/
import Derived.Test.YtmlnnepgigieaaaDoorSub
namespace Go.Sx
section
variable {P : Program} {HH : List HP} {e : Env} {d : Option Nat} {ty : TypeId} {pos : String} {af : Array Edge} {g : Option (Nat × Bool)} {x y : Operand}
theorem Y.maxI {ats : Array TypeId} {k : IntKind} {i j : Int} (hx : ev e x = some (.int k i)) (hy : ev e y = some (.int k j)) : Yv P HH e ⟨d, .call ⟨.builtin .max, #[x, y], ats⟩, ty, pos, af, g⟩ (.int k (if j > i then j else i)) := fun a w he _ => by
  simp [execOp, resolve, invoke, builtin, Builtin.max_, Builtin.max2, ev_eval he hx, ev_eval he hy]
theorem Y.minI {ats : Array TypeId} {k : IntKind} {i j : Int} (hx : ev e x = some (.int k i)) (hy : ev e y = some (.int k j)) : Yv P HH e ⟨d, .call ⟨.builtin .min, #[x, y], ats⟩, ty, pos, af, g⟩ (.int k (if j < i then j else i)) := fun a w he _ => by
  simp [execOp, resolve, invoke, builtin, Builtin.min_, Builtin.min2, ev_eval he hx, ev_eval he hy]
end
end Go.Sx
