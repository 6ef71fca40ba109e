/- Arrays behind a pointer: their elements, slices of them; shifts. No program here. -/
import Derived.Test.YtmlnnepgigieaaaDoorMem
namespace Go.Sx
section
variable {P : Program} {HH : List HP} {e : Env} {d : Option Nat} {ty : TypeId} {pos : String} {af : Array Edge} {g : Option (Nat × Bool)} {x y : Operand} {t u : TypeId}
theorem Y.shr {k j : IntKind} {m n : Int} {q : Nat} (hx : ev e x = some (.int k m)) (hy : ev e y = some (.int j n)) (hn : n = q) (hq : q ≤ k.bits) : Yv P HH e ⟨d, .binOp .shr t x y u, ty, pos, af, g⟩ (.int k (m.fdiv (2 ^ q))) := fun a w he _ => by
  subst hn
  have h1 : min q k.bits = q := Nat.min_eq_left hq
  simp [execOp, ev_eval he hx, ev_eval he hy, eqGuard, binOp, Op.shift, h1, show ¬ (q : Int) < 0 by omega]
theorem Y.indexArr {el n sz b o k : Nat} {ik : IntKind} {i : Int} {zs : List Value} (ht : P.underlying t = some (.array n el)) (hz : TyC P el sz zs) (h : ev e x = some (.pointer (some ⟨b, o, none⟩))) (hi : ev e y = some (.int ik i)) (hk : i = k) (hlt : k < n) :
    Yv P HH e ⟨d, .indexAddr t x y, ty, pos, af, g⟩ (.pointer (some ⟨b, o + k * sz, none⟩)) := fun a w he _ => by
  subst hk
  simp [execOp, ev_eval he h, ev_eval he hi, Instr.indexAt, Instr.sureAddr, asIntOf, run_underlying ht, hz.size, Addr.add_lit, hlt]
/-- x[:k], x an array's address -/
theorem Y.sliceArr {el n sz b k : Nat} {l : Operand} {ik : IntKind} {i : Int} {zs : List Value} (ht : P.underlying t = some (.array n el)) (hz : TyC P el sz zs) (hx : ev e x = some (.pointer (some ⟨b, 0, none⟩))) (hl : ev e l = some (.int ik i)) (hi : i = k) (hk : k ≤ n) :
    Yv P HH e ⟨d, .slice t x none (some l) none, ty, pos, af, g⟩ (.slice (some ⟨b, 0, none⟩) k n) := fun av w he _ => by
  subst hi
  simp [execOp, ev_eval he hx, ev_eval he hl, Instr.sliceAt, Instr.sureAddr, run_underlying ht, Instr.sliceBounds, Instr.sliceBound, asIntOf, hk, hz.size, Addr.add]
end
theorem wrap_lt {k : IntKind} {m : Nat} (hk : k = .u32 ∨ k = .u64 ∨ k = .i64 ∨ k = .i32) (h : m < 2147483648) : k.wrap (m : Int) = m := by
  rcases hk with rfl | rfl | rfl | rfl <;> simp [IntKind.wrap, IntKind.signed, IntKind.bits] <;> omega
section
variable {P : Program} {HH : List HP} {e : Env} {d : Option Nat} {ty : TypeId} {pos : String} {af : Array Edge} {g : Option (Nat × Bool)} {x y : Operand} {t u : TypeId} {k : IntKind} {m n : Nat} {c : Int}
theorem Y.quoN (hk : k = .u32 ∨ k = .u64 ∨ k = .i64 ∨ k = .i32) (hx : ev e x = some (.int k m)) (hy : ev e y = some (.int k c)) (hc : c = n) (h : 0 < n) (hm : m < 2147483648) : Yv P HH e ⟨d, .binOp .quo t x y u, ty, pos, af, g⟩ (.int k ((m / n : Nat) : Int)) := by
  subst hc
  have h1 := Y.quo (P := P) (HH := HH) (d := d) (ty := ty) (pos := pos) (af := af) (g := g) (t := t) (u := u) hx hy (by omega)
  have h2 : (m : Int).tdiv n = ((m / n : Nat) : Int) := by rw [Int.tdiv_eq_ediv_of_nonneg (by omega)]; simp
  have h3 : m / n ≤ m := Nat.div_le_self m n
  rwa [h2, wrap_lt hk (by omega)] at h1
theorem Y.remN (hx : ev e x = some (.int k m)) (hy : ev e y = some (.int k c)) (hc : c = n) (h : 0 < n) : Yv P HH e ⟨d, .binOp .rem t x y u, ty, pos, af, g⟩ (.int k ((m % n : Nat) : Int)) := by
  subst hc
  have h1 := Y.rem (P := P) (HH := HH) (d := d) (ty := ty) (pos := pos) (af := af) (g := g) (t := t) (u := u) hx hy (by omega)
  have h2 : (m : Int).tmod n = ((m % n : Nat) : Int) := by rw [Int.tmod_eq_emod_of_nonneg (by omega)]; simp
  rwa [h2] at h1
theorem Y.mulN (hk : k = .u32 ∨ k = .u64 ∨ k = .i64 ∨ k = .i32) (hx : ev e x = some (.int k m)) (hy : ev e y = some (.int k c)) (hc : c = n) (hm : m * n < 2147483648) : Yv P HH e ⟨d, .binOp .mul t x y u, ty, pos, af, g⟩ (.int k ((m * n : Nat) : Int)) := by
  subst hc
  have h1 := Y.mulW (P := P) (HH := HH) (d := d) (ty := ty) (pos := pos) (af := af) (g := g) (t := t) (u := u) hx hy
  rwa [← Int.natCast_mul, wrap_lt hk hm] at h1
theorem Y.addNk (hk : k = .u32 ∨ k = .u64 ∨ k = .i64 ∨ k = .i32) (hx : ev e x = some (.int k m)) (hy : ev e y = some (.int k c)) (hc : c = n) (hm : m + n < 2147483648) : Yv P HH e ⟨d, .binOp .add t x y u, ty, pos, af, g⟩ (.int k ((m + n : Nat) : Int)) := by
  subst hc
  have h1 := Y.addW (P := P) (HH := HH) (d := d) (ty := ty) (pos := pos) (af := af) (g := g) (t := t) (u := u) hx hy
  rwa [← Int.natCast_add, wrap_lt hk hm] at h1
theorem Y.convN {k' : IntKind} {sd : TypeDesc} {s : TypeId} (hk : k' = .u32 ∨ k' = .u64 ∨ k' = .i64 ∨ k' = .i32) (hs : P.underlying s = some sd) (ht : P.underlying t = some (.int k')) (hx : ev e x = some (.int k m)) (hm : m < 2147483648) : Yv P HH e ⟨d, .convert s t x, ty, pos, af, g⟩ (.int k' (m : Int)) := by
  have h1 := Y.conv (P := P) (HH := HH) (d := d) (ty := ty) (pos := pos) (af := af) (g := g) hs ht hx
  rwa [wrap_lt hk hm] at h1
theorem Y.convB {sd : TypeDesc} {s : TypeId} (hs : P.underlying s = some sd) (ht : P.underlying t = some (.int .u8)) (hx : ev e x = some (.int k m)) (hm : m < 256) : Yv P HH e ⟨d, .convert s t x, ty, pos, af, g⟩ (.int .u8 (m : Int)) := by
  have h1 := Y.conv (P := P) (HH := HH) (d := d) (ty := ty) (pos := pos) (af := af) (g := g) hs ht hx
  have h2 : IntKind.u8.wrap (m : Int) = m := by simp [IntKind.wrap, IntKind.signed, IntKind.bits]; omega
  rwa [h2] at h1
/-- x[i], x a slice whose address is known. -/
theorem Y.indexAt {el n' c' q sz b o : Nat} {ik : IntKind} {i : Int} {zs : List Value} (ht : P.underlying t = some (.slice el)) (hz : TyC P el sz zs) (h : ev e x = some (.slice (some ⟨b, o, none⟩) n' c')) (hi : ev e y = some (.int ik i)) (hk : i = q) (hlt : q < n') :
    Yv P HH e ⟨d, .indexAddr t x y, ty, pos, af, g⟩ (.pointer (some ⟨b, o + q * sz, none⟩)) := fun a w he _ => by
  subst hk
  simp [execOp, ev_eval he h, ev_eval he hi, Instr.indexAt, asIntOf, run_underlying ht, hz.size, Addr.add_lit, hlt]
theorem Y.shrN {j : IntKind} {q : Nat} (hx : ev e x = some (.int k m)) (hy : ev e y = some (.int j c)) (hn : c = q) (hq : q ≤ k.bits) : Yv P HH e ⟨d, .binOp .shr t x y u, ty, pos, af, g⟩ (.int k ((m / 2 ^ q : Nat) : Int)) := by
  have h1 := Y.shr (P := P) (HH := HH) (d := d) (ty := ty) (pos := pos) (af := af) (g := g) (t := t) (u := u) hx hy hn hq
  have h2 : (m : Int).fdiv (2 ^ q) = ((m / 2 ^ q : Nat) : Int) := by rw [show (2 : Int) ^ q = ((2 ^ q : Nat) : Int) by simp]; rw [Int.fdiv_eq_ediv_of_nonneg _ (Int.natCast_nonneg (2 ^ q))]; exact (Int.natCast_ediv m (2 ^ q)).symm
  rwa [h2] at h1
end
theorem flatten_ones (l : List Value) : (l.map fun v => [v]).flatten = l := by
  induction l with
  | nil => rfl
  | cons x l ih => simp [ih]
/-- A local array of one-cell elements, as a slice's row. -/
theorem blk_row {b k : Nat} {cs : List Value} {t : TypeId} (hk : k ≤ cs.length) (hm : cs.length ≤ maxLen) : ∀ h, blk b cs t h → row (some ⟨b, 0, none⟩) k cs.length t 1 ((cs.take k).map fun v => [v]) h := fun h hb => by
  refine ⟨by simp; omega, fun x hx => ?_, .inr ⟨b, cs.toArray, rfl, hb, hk, hm, by simp, ?_⟩⟩
  · obtain ⟨v, _, rfl⟩ := List.mem_map.1 hx; rfl
  · rw [flatten_ones]; simp
end Go.Sx
