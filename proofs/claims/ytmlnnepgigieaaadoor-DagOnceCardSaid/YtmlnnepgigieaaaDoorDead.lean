/- An operation whose guard's own operation was not done. No program here. -/
import Derived.Test.YtmlnnepgigieaaaDoorSub
namespace Go.Sx
section
variable {cx : Cx} {rx : Rx} {rest : List (Bool × Oper)} {e : Env} {H : List HP}
/-- An operation whose guard was never asked. -/
theorem wanted_undef {a : Act} {ops : Array Oper} {j s : Nat} {b : Bool} {d : Option Nat} {op : Op} {ty : TypeId} {pos : String} {af : Array Edge} (he : EnvOk e a)
    (hj : (ops[j]?).bind (·.dst) = some s) (hl : look e s = some undef) : Region.wanted ⟨d, op, ty, pos, af, some (j, b)⟩ (yielded ops a.tmps) = false := by
  have h1 := he s _ hl
  simp [Region.wanted, yielded, hj, h1, undef]
theorem OL.dead {d : Nat} {op : Op} {ty : TypeId} {pos : String} {af : Array Edge} {j s : Nat} {b : Bool}
    (hj : (rx.ops[j]?).bind (·.dst) = some s) (hl : look e s = some undef) (hd : Nat.blt d cx.N = true)
    (h : OL cx rx rest ((d, undef) :: e) H) : OL cx rx ((false, ⟨some d, op, ty, pos, af, some (j, b)⟩) :: rest) e H := fun a w hs hR => by
  unfold wpX
  rw [wanted_undef hs.env hj hl, if_neg (by simp)]
  exact h _ _ (hs.put hd) hR
theorem OL.tdead {d : Nat} {op : Op} {ty : TypeId} {pos : String} {af : Array Edge} {j s : Nat} {b : Bool}
    (hj : (rx.ops[j]?).bind (·.dst) = some s) (hl : look e s = some undef) (hd : Nat.blt d cx.N = true)
    (h : OL cx rx rest ((d, undef) :: e) H) : OL cx rx ((true, ⟨some d, op, ty, pos, af, some (j, b)⟩) :: rest) e H := fun _ _ hs hR =>
  ⟨undef, .inr ⟨wanted_undef hs.env hj hl, rfl⟩, h _ _ (hs.put hd) hR⟩
end
end Go.Sx
