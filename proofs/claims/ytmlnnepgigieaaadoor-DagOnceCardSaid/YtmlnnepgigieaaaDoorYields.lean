/- What the quiet operations yield: one law an operation. The program is a letter; what is asked of its tables stands in small structures. -/
import Derived.Test.YtmlnnepgigieaaaDoorJudge
import Derived.Laws.Strings
import Derived.Laws.Entries
import Derived.Laws.Tables
import Derived.Laws.Slices
import Derived.Laws.BitsLemmas
import Derived.IntWalk
import Derived.Laws.Concat
import Derived.Laws.Cells
namespace Go.Sx

/-! ### what is asked of the program's tables -/
/-- A type of one cell. -/
structure Ty1 (P : Program) (t : TypeId) (z : Value) : Prop where
  agg : ∀ w, (isAgg t).run P w = .ok false w
  size : ∀ w, (sizeOf t).run P w = .ok 1 w
  zero : ∀ w, (zeroValue t).run P w = .ok z w
/-- A struct (an array) of n cells. -/
structure TyN (P : Program) (t : TypeId) (n : Nat) (zs : List Value) : Prop where
  agg : ∀ w, (isAgg t).run P w = .ok true w
  size : ∀ w, (sizeOf t).run P w = .ok n w
  zero : ∀ w, (zeroValue t).run P w = .ok (.agg zs.toArray) w
  len : zs.length = n
/-- Whichever: its cells' number, and its zero value's cells. -/
structure TyC (P : Program) (t : TypeId) (n : Nat) (zs : List Value) : Prop where
  size : ∀ w, (sizeOf t).run P w = .ok n w
  zero : ∃ z : Value, (∀ w, (zeroValue t).run P w = .ok z w) ∧ z.cells = zs.toArray
  len : zs.length = n
theorem Ty1.c {P : Program} {t : TypeId} {z : Value} (h : Ty1 P t z) (hz : z.cells = #[z]) : TyC P t 1 [z] := ⟨h.size, ⟨z, h.zero, hz⟩, rfl⟩
theorem TyN.c {P : Program} {t : TypeId} {n : Nat} {zs : List Value} (h : TyN P t n zs) : TyC P t n zs := ⟨h.size, ⟨_, h.zero, rfl⟩, h.len⟩
/-- The field of a struct: where it lies. -/
structure Fld (P : Program) (s f off : Nat) : Prop where
  is : ∃ fs : Array Field, P.underlying s = some (.struct fs) ∧ ∃ d : Field, fs[f]? = some d ∧ d.offset = off ∧ ∃ n, n ≠ 0 ∧ ∀ w, (sizeOf d.type).run P w = .ok n w
/-- A struct's fields: where each lies, and of how many cells. -/
structure StT (P : Program) (t : TypeId) (places : List (Nat × Nat)) (zs : List Value) : Prop where
  built : ∀ (parts : List (Nat × Value)) (cells : Array Value), Instr.fill (places.toArray[·]?) zs.toArray parts = some cells → P.built t parts = some cells
/-- An element's type, as append asks for it. -/
structure Elt (P : Program) (e sz bytes : Nat) (zs : List Value) : Prop where
  is : ∃ i : TypeInfo, P.info? e = some i ∧ i.size = sz ∧ i.bytes = bytes ∧ ∃ z : Value, i.zero = some z ∧ z.cells = zs.toArray
  len : zs.length = sz
  pos : 0 < sz

theorem StT.of {P : Program} {t : TypeId} {it : TypeInfo} {fs : Array Field} {places : List (Nat × Nat)} {zs : List Value} {z : Value} (hi : P.info? t = some it) (hu : P.underlying t = some (.struct fs)) (hz : it.zero = some z) (hc : z.cells = zs.toArray)
    (hp : fs.toList.mapM (fun f => (P.info? f.type).map fun i => (f.offset, i.size)) = some places) : StT P t places zs := ⟨fun parts cells h => by
  simp only [Program.built, hi, hu, hz, hp, hc]
  exact h⟩

/-! ### slices that can be read -/
def ab : Option Addr → Nat | some a => a.block | none => 0
def ao : Option Addr → Nat | some a => a.off | none => 0
/-- Some cells in a row. -/
def cellsIs (b off : Nat) (vs : List Value) : HP := fun h => ∀ j v, vs[j]? = some v → cellIs b (off + j) v h
theorem Up.cellsIs (b off : Nat) (vs : List Value) : Up (cellsIs b off vs) := fun _ _ e h j v hv => Up.cellIs _ _ _ _ _ e (h j v hv)
/-- A slice of n elements of sz cells each that reads as xss. -/
def rd (a : Option Addr) (n sz : Nat) (xss : List (List Value)) : HP := fun h =>
  xss.length = n ∧ (∀ x ∈ xss, x.length = sz) ∧ (0 < n → a = some ⟨ab a, ao a, none⟩) ∧ ∀ k xs, xss[k]? = some xs → cellsIs (ab a) (ao a + k * sz) xs h
theorem Up.rd (a : Option Addr) (n sz : Nat) (xss : List (List Value)) : Up (rd a n sz xss) := fun _ _ e ⟨h1, h2, h3, h4⟩ => ⟨h1, h2, h3, fun k xs hk => Up.cellsIs _ _ _ _ _ e (h4 k xs hk)⟩
theorem rd_nil (c : Option Addr) (sz : Nat) (h : PH) : rd c 0 sz [] h := ⟨rfl, (fun _ hx => nomatch hx), (fun h => absurd h (by simp)), (fun k xs hk => by simp at hk)⟩
/-- The call's own slice: it may be written, and appended to. -/
def row (a : Option Addr) (n c : Nat) (e : TypeId) (sz : Nat) (xss : List (List Value)) : HP := fun h =>
  xss.length = n ∧ (∀ x ∈ xss, x.length = sz) ∧
  ((a = none ∧ n = 0 ∧ c = 0) ∨
   ∃ g cur, a = some ⟨g, 0, none⟩ ∧ h g = some (.cells cur e (0, 0)) ∧ n ≤ c ∧ c ≤ maxLen ∧ cur.size = c * sz ∧ cur.toList.take (n * sz) = xss.flatten)

theorem flatten_at : ∀ (xss : List (List Value)) (sz k j : Nat) (xs : List Value) (v : Value), (∀ x ∈ xss, x.length = sz) → xss[k]? = some xs → xs[j]? = some v → xss.flatten[k * sz + j]? = some v
  | [], _, k, _, _, _, _, hk, _ => by simp at hk
  | x :: l, sz, 0, j, xs, v, hl, hk, hj => by
    simp at hk; subst hk
    obtain ⟨hjl, _⟩ := List.getElem?_eq_some_iff.1 hj
    simp only [Nat.zero_mul, Nat.zero_add, List.flatten_cons]
    rw [List.getElem?_append_left hjl, hj]
  | x :: l, sz, k + 1, j, xs, v, hl, hk, hj => by
    have hx : x.length = sz := hl x (by simp)
    simp only [List.getElem?_cons_succ] at hk
    have ih := flatten_at l sz k j xs v (fun y hy => hl y (by simp [hy])) hk hj
    simp only [List.flatten_cons]
    rw [List.getElem?_append_right (by rw [hx, Nat.add_mul]; omega), hx, ← ih]
    congr 1
    rw [Nat.add_mul]; omega

theorem flatten_length : ∀ (xss : List (List Value)) (sz : Nat), (∀ x ∈ xss, x.length = sz) → xss.flatten.length = xss.length * sz
  | [], _, _ => by simp
  | x :: l, sz, hl => by
    rw [List.flatten_cons, List.length_append, flatten_length l sz (fun y hy => hl y (by simp [hy])), hl x (by simp), List.length_cons, Nat.add_mul, Nat.one_mul, Nat.add_comm]

theorem row_rd {a : Option Addr} {n c : Nat} {e : TypeId} {sz : Nat} {xss : List (List Value)} : ∀ h, row a n c e sz xss h → rd a n sz xss h := by
  rintro h ⟨hl, hs, hr⟩
  rcases hr with ⟨rfl, rfl, rfl⟩ | ⟨g, cur, rfl, hg, hn, hc, hcs, ht⟩
  · have : xss = [] := List.eq_nil_of_length_eq_zero hl
    subst this
    exact rd_nil _ _ _
  · refine ⟨hl, hs, fun _ => rfl, fun k xs hk j v hv => ⟨cur, e, _, hg, ?_⟩⟩
    have h1 := flatten_at xss sz k j xs v hs hk hv
    rw [← ht] at h1
    rw [List.getElem?_take] at h1
    split at h1
    · simp only [ao, Nat.zero_add]; simpa using h1
    · cases h1

theorem rd_at {HH : List HP} {a : Option Addr} {n sz : Nat} {xss : List (List Value)} {xs : List Value} {k : Nat} (h : Ent HH (rd a n sz xss)) (hk : xss[k]? = some xs) : Ent HH (cellsIs (ab a) (ao a + k * sz) xs) :=
  fun _ hs => (h _ hs).2.2.2 k xs hk
theorem cellsIs_at {HH : List HP} {b off j : Nat} {vs : List Value} {v : Value} (h : Ent HH (cellsIs b off vs)) (hj : vs[j]? = some v) : Ent HH (cellIs b (off + j) v) :=
  fun _ hs => h _ hs j v hj
theorem cellsIs_at0 {HH : List HP} {b off : Nat} {vs : List Value} {v : Value} (h : Ent HH (cellsIs b off vs)) (hj : vs[0]? = some v) : Ent HH (cellIs b off v) :=
  fun _ hs => h _ hs 0 v hj
theorem blk_cells {b : Nat} {cs : List Value} {t : TypeId} : ∀ h, blk b cs t h → cellsIs b 0 cs h := fun _ hb j v hv => ⟨_, _, _, hb, by simpa using hv⟩

/-! ### the operations -/
section
variable {P : Program} {HH : List HP} {e : Env} {d : Option Nat} {ty : TypeId} {pos : String} {af : Array Edge} {g : Option (Nat × Bool)}

theorem Y.move {x : Operand} {v : Value} (h : ev e x = some v) : Yv P HH e ⟨d, .move x, ty, pos, af, g⟩ v := fun a w he _ => by
  simp [execOp, ev_eval he h]
theorem Y.assign {x : Operand} {v : Value} (h : ev e x = some v) : Yv P HH e ⟨d, .assign x, ty, pos, af, g⟩ v := fun a w he _ => by
  simp [execOp, ev_eval he h]
theorem Y.pick {c x y : Operand} {b : Bool} {u v : Value} (hc : ev e c = some (.bool b)) (hx : ev e x = some u) (hy : ev e y = some v) : Yv P HH e ⟨d, .pick c x y, ty, pos, af, g⟩ (if b then u else v) := fun a w he _ => by
  simp [execOp, ev_eval he hc, ev_eval he hx, ev_eval he hy, asBool]
theorem Y.pickT {c x y : Operand} {b : Bool} {u : Value} (hc : ev e c = some (.bool b)) (hb : b = true) (hx : ev e x = some u) : Yv P HH e ⟨d, .pick c x y, ty, pos, af, g⟩ u := fun a w he _ => by
  simp [execOp, ev_eval he hc, hb, ev_eval he hx, asBool]
theorem Y.pickF {c x y : Operand} {b : Bool} {u : Value} (hc : ev e c = some (.bool b)) (hb : b = false) (hy : ev e y = some u) : Yv P HH e ⟨d, .pick c x y, ty, pos, af, g⟩ u := fun a w he _ => by
  simp [execOp, ev_eval he hc, hb, ev_eval he hy, asBool]
theorem Y.nilCheck {x : Operand} {p : Addr} (h : ev e x = some (.pointer (some p))) : Yv P HH e ⟨d, .nilCheck x, ty, pos, af, g⟩ (.pointer (some p)) := fun a w he _ => by
  simp [execOp, ev_eval he h]
theorem Y.nilCheckF {x : Operand} {f : FuncId} {u v : Array Value} (h : ev e x = some (.func (.func f) u v)) : Yv P HH e ⟨d, .nilCheck x, ty, pos, af, g⟩ (.func (.func f) u v) := fun a w he _ => by
  simp [execOp, ev_eval he h]
theorem Y.field {s f off b o : Nat} {x : Operand} (hf : Fld P s f off) (h : ev e x = some (.pointer (some ⟨b, o, none⟩))) : Yv P HH e ⟨d, .fieldAddr s x f, ty, pos, af, g⟩ (.pointer (some ⟨b, o + off, none⟩)) := fun a w he _ => by
  obtain ⟨fs, hu, fd, hfd, rfl, n, hn, hs⟩ := hf.is
  simp [execOp, ev_eval he h, Instr.fieldAt, run_underlying hu, hfd, Instr.sureAddr, fieldPlace, hs, hn, Addr.add_lit]
theorem Y.load {t b o : Nat} {x : Operand} {v z : Value} (ht : Ty1 P t z) (h : ev e x = some (.pointer (some ⟨b, o, none⟩))) (hc : Ent HH (cellIs b o v)) : Yv P HH e ⟨d, .load t x, ty, pos, af, g⟩ v := fun a w he hs => by
  have h1 := (hc _ hs).cell
  simp [execOp, ev_eval he h, Instr.loadAt, Instr.sureAddr, loadVar, ht.agg, h1]
theorem run_loadCells_is {w : World} {b o : Nat} {vs : List Value} (h : cellsIs b o vs (hp w)) : (loadCells ⟨b, o, none⟩ vs.length).run P w = .ok vs.toArray w :=
  run_loadCells_list w _ vs fun j v hj => by rw [Addr.add_lit]; exact (h j v hj).cell
theorem Y.loadN {t n b o : Nat} {x : Operand} {vs zs : List Value} (ht : TyN P t n zs) (h : ev e x = some (.pointer (some ⟨b, o, none⟩))) (hn : vs.length = n) (hc : Ent HH (cellsIs b o vs)) : Yv P HH e ⟨d, .load t x, ty, pos, af, g⟩ (.agg vs.toArray) := fun a w he hs => by
  have h1 := run_loadCells_is (P := P) (hc _ hs)
  rw [hn] at h1
  simp [execOp, ev_eval he h, Instr.loadAt, Instr.sureAddr, loadVar, ht.agg, ht.size, h1]
theorem Y.lenSl {x : Operand} {t el : TypeId} {a : Option Addr} {n c : Nat} (ht : P.underlying t = some (.slice el)) (h : ev e x = some (.slice a n c)) :
    Yv P HH e ⟨d, .call ⟨.builtin .len, #[x], #[t]⟩, ty, pos, af, g⟩ (.int .i64 n) := fun a' w he _ => by
  simp [execOp, resolve, ev_eval he h, invoke, builtin, Builtin.len_, run_underlying ht, goInt]
theorem Y.lenStr {x : Operand} {t : TypeId} {s : ByteArray} (ht : P.underlying t = some .string) (h : ev e x = some (.string s)) :
    Yv P HH e ⟨d, .call ⟨.builtin .len, #[x], #[t]⟩, ty, pos, af, g⟩ (.int .i64 s.size) := fun a w he _ => by
  simp [execOp, resolve, ev_eval he h, invoke, builtin, Builtin.len_, run_underlying ht, goInt]
theorem Y.index {x y : Operand} {t el : TypeId} {ik : IntKind} {a : Option Addr} {n c k sz : Nat} {i : Int} {zs : List Value} {xss : List (List Value)} (ht : P.underlying t = some (.slice el)) (hz : TyC P el sz zs) (h : ev e x = some (.slice a n c)) (hi : ev e y = some (.int ik i))
    (hr : Ent HH (rd a n sz xss)) (hk : i = k) (hlt : k < n) : Yv P HH e ⟨d, .indexAddr t x y, ty, pos, af, g⟩ (.pointer (some ⟨ab a, ao a + k * sz, none⟩)) := fun a' w he hs => by
  subst hk
  have ha := (hr _ hs).2.2.1 (by omega)
  simp only [execOp, ev_eval he h, ev_eval he hi, Instr.indexAt]
  rw [ha]
  simp [asIntOf, run_underlying ht, hz.size, Addr.add_lit, hlt, ab, ao]
theorem Y.indexStr {x y : Operand} {t : TypeId} {ik : IntKind} {s : ByteArray} {i : Int} {k : Nat} (ht : P.underlying t = some .string) (h : ev e x = some (.string s)) (hi : ev e y = some (.int ik i)) (hk : i = k) (hlt : k < s.size) :
    Yv P HH e ⟨d, .index t x y, ty, pos, af, g⟩ (.int .u8 s[k].toNat) := fun a w he _ => by
  subst hk
  simp [execOp, ev_eval he h, ev_eval he hi, Instr.index, asIntOf, run_underlying ht, ByteArray.getElem?_lt' s k hlt]
theorem Y.extract {x : Operand} {vs : List Value} {v : Value} {i : Nat} (h : ev e x = some (.tuple vs.toArray)) (hi : nth vs i = some v) : Yv P HH e ⟨d, .extract x i, ty, pos, af, g⟩ v := fun a w he _ => by
  rw [nth_eq] at hi
  simp [execOp, ev_eval he h, Instr.extract, hi]
theorem Y.not {x : Operand} {t : TypeId} {b : Bool} (h : ev e x = some (.bool b)) : Yv P HH e ⟨d, .unOp .not t x, ty, pos, af, g⟩ (.bool !b) := fun a w he _ => by
  simp [execOp, ev_eval he h, Op.unary]
theorem Y.neg {x : Operand} {t : TypeId} {k : IntKind} {n : Int} (h : ev e x = some (.int k n)) : Yv P HH e ⟨d, .unOp .neg t x, ty, pos, af, g⟩ (.int k (k.wrap (-n))) := fun a w he _ => by
  simp [execOp, ev_eval he h, Op.unary, Op.intArith]

section
variable {x y : Operand} {t u : TypeId} {k : IntKind} {m n : Int}
theorem Y.addW (hx : ev e x = some (.int k m)) (hy : ev e y = some (.int k n)) : Yv P HH e ⟨d, .binOp .add t x y u, ty, pos, af, g⟩ (.int k (k.wrap (m + n))) := fun a w he _ => by
  simp [execOp, ev_eval he hx, ev_eval he hy, eqGuard, binOp, Op.intArith]
theorem Y.subW (hx : ev e x = some (.int k m)) (hy : ev e y = some (.int k n)) : Yv P HH e ⟨d, .binOp .sub t x y u, ty, pos, af, g⟩ (.int k (k.wrap (m - n))) := fun a w he _ => by
  simp [execOp, ev_eval he hx, ev_eval he hy, eqGuard, binOp, Op.intArith]
theorem Y.mulW (hx : ev e x = some (.int k m)) (hy : ev e y = some (.int k n)) : Yv P HH e ⟨d, .binOp .mul t x y u, ty, pos, af, g⟩ (.int k (k.wrap (m * n))) := fun a w he _ => by
  simp [execOp, ev_eval he hx, ev_eval he hy, eqGuard, binOp, Op.intArith]
theorem Y.add (hx : ev e x = some (.int .i64 m)) (hy : ev e y = some (.int .i64 n)) (h : -9223372036854775808 ≤ m + n ∧ m + n ≤ 9223372036854775807) : Yv P HH e ⟨d, .binOp .add t x y u, ty, pos, af, g⟩ (.int .i64 (m + n)) := by
  have := Y.addW (P := P) (HH := HH) (d := d) (ty := ty) (pos := pos) (af := af) (g := g) (t := t) (u := u) hx hy
  rwa [IntWalk.i64_in _ h] at this
theorem Y.sub (hx : ev e x = some (.int .i64 m)) (hy : ev e y = some (.int .i64 n)) (h : -9223372036854775808 ≤ m - n ∧ m - n ≤ 9223372036854775807) : Yv P HH e ⟨d, .binOp .sub t x y u, ty, pos, af, g⟩ (.int .i64 (m - n)) := by
  have := Y.subW (P := P) (HH := HH) (d := d) (ty := ty) (pos := pos) (af := af) (g := g) (t := t) (u := u) hx hy
  rwa [IntWalk.i64_in _ h] at this
theorem Y.mul (hx : ev e x = some (.int .i64 m)) (hy : ev e y = some (.int .i64 n)) (h : -9223372036854775808 ≤ m * n ∧ m * n ≤ 9223372036854775807) : Yv P HH e ⟨d, .binOp .mul t x y u, ty, pos, af, g⟩ (.int .i64 (m * n)) := by
  have := Y.mulW (P := P) (HH := HH) (d := d) (ty := ty) (pos := pos) (af := af) (g := g) (t := t) (u := u) hx hy
  rwa [IntWalk.i64_in _ h] at this
/-- A counter, in natural numbers. -/
theorem Y.addN {i j : Nat} (hx : ev e x = some (.int .i64 i)) (hy : ev e y = some (.int .i64 j)) (h : i + j ≤ 9223372036854775807) : Yv P HH e ⟨d, .binOp .add t x y u, ty, pos, af, g⟩ (.int .i64 ((i + j : Nat) : Int)) := by
  have := Y.add (P := P) (HH := HH) (d := d) (ty := ty) (pos := pos) (af := af) (g := g) (t := t) (u := u) hx hy (by omega)
  rwa [← Int.natCast_add] at this
theorem Y.add1 {i : Nat} {o : Int} (hx : ev e x = some (.int .i64 i)) (hy : ev e y = some (.int .i64 o)) (ho : o = 1) (h : i + 1 ≤ 9223372036854775807) : Yv P HH e ⟨d, .binOp .add t x y u, ty, pos, af, g⟩ (.int .i64 ((i + 1 : Nat) : Int)) := by
  subst ho
  exact Y.addN (j := 1) hx hy h
theorem Y.lss (hx : ev e x = some (.int k m)) (hy : ev e y = some (.int k n)) : Yv P HH e ⟨d, .binOp .lss t x y u, ty, pos, af, g⟩ (.bool (decide (m < n))) := fun a w he _ => by
  simp [execOp, ev_eval he hx, ev_eval he hy, eqGuard, binOp, Op.intCmp]
theorem Y.leq (hx : ev e x = some (.int k m)) (hy : ev e y = some (.int k n)) : Yv P HH e ⟨d, .binOp .leq t x y u, ty, pos, af, g⟩ (.bool (decide (m ≤ n))) := fun a w he _ => by
  simp [execOp, ev_eval he hx, ev_eval he hy, eqGuard, binOp, Op.intCmp]
theorem Y.gtr (hx : ev e x = some (.int k m)) (hy : ev e y = some (.int k n)) : Yv P HH e ⟨d, .binOp .gtr t x y u, ty, pos, af, g⟩ (.bool (decide (n < m))) := fun a w he _ => by
  simp [execOp, ev_eval he hx, ev_eval he hy, eqGuard, binOp, Op.intCmp]
theorem Y.geq (hx : ev e x = some (.int k m)) (hy : ev e y = some (.int k n)) : Yv P HH e ⟨d, .binOp .geq t x y u, ty, pos, af, g⟩ (.bool (decide (n ≤ m))) := fun a w he _ => by
  simp [execOp, ev_eval he hx, ev_eval he hy, eqGuard, binOp, Op.intCmp]
theorem Y.eql (hx : ev e x = some (.int k m)) (hy : ev e y = some (.int k n)) : Yv P HH e ⟨d, .binOp .eql t x y u, ty, pos, af, g⟩ (.bool (decide (m = n))) := fun a w he _ => by
  simp [execOp, ev_eval he hx, ev_eval he hy, eqGuard, binOp, Op.intCmp]
  rw [Bool.eq_iff_iff]; simp
theorem Y.neq (hx : ev e x = some (.int k m)) (hy : ev e y = some (.int k n)) : Yv P HH e ⟨d, .binOp .neq t x y u, ty, pos, af, g⟩ (.bool (decide (m ≠ n))) := fun a w he _ => by
  simp [execOp, ev_eval he hx, ev_eval he hy, eqGuard, binOp, Op.intCmp]
  rw [Bool.eq_iff_iff]; simp
theorem run_equalIn_bool (dd : Nat) (w : World) {b c : Bool} (ht : P.underlying t = some .bool) : (Op.equalIn (dd + 1) t (.bool b) (.bool c)).run P w = .ok (b == c) w := by
  simp [Op.equalIn, run_underlying ht]
theorem run_equal_bool (w : World) {b c : Bool} (ht : P.underlying t = some .bool) : (Op.equal t (.bool b) (.bool c)).run P w = .ok (b == c) w := run_equalIn_bool 9999 w ht
theorem Y.eqlB {b c : Bool} (ht : P.underlying t = some .bool) (hx : ev e x = some (.bool b)) (hy : ev e y = some (.bool c)) : Yv P HH e ⟨d, .binOp .eql t x y u, ty, pos, af, g⟩ (.bool (decide (b = c))) := fun a w he _ => by
  simp [execOp, ev_eval he hx, ev_eval he hy, eqGuard, binOp, run_equal_bool w ht]
  cases b <;> cases c <;> rfl
theorem Y.neqB {b c : Bool} (ht : P.underlying t = some .bool) (hx : ev e x = some (.bool b)) (hy : ev e y = some (.bool c)) : Yv P HH e ⟨d, .binOp .neq t x y u, ty, pos, af, g⟩ (.bool (decide (b ≠ c))) := fun a w he _ => by
  simp [execOp, ev_eval he hx, ev_eval he hy, eqGuard, binOp, run_equal_bool w ht]
  cases b <;> cases c <;> rfl
theorem bytes_eq {s r : ByteArray} : (s.toList == r.toList) = decide (s = r) := by
  rw [Bool.eq_iff_iff]
  simp only [beq_iff_eq, decide_eq_true_eq, ByteArray.toList_eq]
  constructor
  · intro h; cases s; cases r; simp at h; simp [h]
  · rintro rfl; rfl
theorem Y.eqlS {s r : ByteArray} (hx : ev e x = some (.string s)) (hy : ev e y = some (.string r)) : Yv P HH e ⟨d, .binOp .eql t x y u, ty, pos, af, g⟩ (.bool (decide (s = r))) := fun a w he _ => by
  simp [execOp, ev_eval he hx, ev_eval he hy, eqGuard, binOp, Op.stringOp, bytes_eq]
theorem Y.neqS {s r : ByteArray} (hx : ev e x = some (.string s)) (hy : ev e y = some (.string r)) : Yv P HH e ⟨d, .binOp .neq t x y u, ty, pos, af, g⟩ (.bool (decide (s ≠ r))) := fun a w he _ => by
  simp [execOp, ev_eval he hx, ev_eval he hy, eqGuard, binOp, Op.stringOp, bytes_eq]
theorem Y.addS {s r : ByteArray} (hx : ev e x = some (.string s)) (hy : ev e y = some (.string r)) (hl : s.size + r.size ≤ 9223372036854775807) : Yv P HH e ⟨d, .binOp .add t x y u, ty, pos, af, g⟩ (.string (s ++ r)) := fun a w he _ => by
  simp [execOp, ev_eval he hx, ev_eval he hy, eqGuard, binOp, run_string_add_sum w s r hl]
theorem Y.quo (hx : ev e x = some (.int k m)) (hy : ev e y = some (.int k n)) (h : n ≠ 0) : Yv P HH e ⟨d, .binOp .quo t x y u, ty, pos, af, g⟩ (.int k (k.wrap (m.tdiv n))) := fun a w he _ => by
  simp [execOp, ev_eval he hx, ev_eval he hy, eqGuard, binOp, Op.intDiv, h]
theorem Y.rem (hx : ev e x = some (.int k m)) (hy : ev e y = some (.int k n)) (h : n ≠ 0) : Yv P HH e ⟨d, .binOp .rem t x y u, ty, pos, af, g⟩ (.int k (m.tmod n)) := fun a w he _ => by
  simp [execOp, ev_eval he hx, ev_eval he hy, eqGuard, binOp, Op.intDiv, h]
end

theorem Y.conv {x : Operand} {s t : TypeId} {k k' : IntKind} {sd : TypeDesc} {n : Int} (hs : P.underlying s = some sd) (ht : P.underlying t = some (.int k')) (hx : ev e x = some (.int k n)) : Yv P HH e ⟨d, .convert s t x, ty, pos, af, g⟩ (.int k' (k'.wrap n)) := fun a w he _ => by
  simp [execOp, ev_eval he hx, convert, run_underlying hs, run_underlying ht, Conv.intToInt]

/-! values that are put together -/
def cl (v : Value) : List Value := v.cells.toList
def setR (zs : List Value) (off : Nat) : List Value → List Value
  | [] => zs
  | c :: cs => setR (zs.set off c) (off + 1) cs
def layL (places : List (Nat × Nat)) (zs : List Value) : List (Nat × Value) → Option (List Value)
  | [] => some zs
  | (i, v) :: r => match nth places i with
    | some (off, size) => bif (Nat.beq (cl v).length size && Nat.ble (off + size) zs.length) then layL places (setR zs off (cl v)) r else none
    | none => none
theorem setR_length : ∀ (cs zs : List Value) (off : Nat), (setR zs off cs).length = zs.length
  | [], _, _ => rfl
  | c :: cs, zs, off => by simp [setR, setR_length cs]
theorem setR_fold : ∀ (cs : List Value) (zs : List Value) (off j : Nat), (cs.zipIdx j).foldl (fun (acc : Array Value) (p : Value × Nat) => acc.setIfInBounds (off + p.2) p.1) zs.toArray = (setR zs (off + j) cs).toArray
  | [], _, _, _ => rfl
  | c :: cs, zs, off, j => by
    simp only [List.zipIdx_cons, List.foldl_cons, setR, List.setIfInBounds_toArray]
    rw [setR_fold cs (zs.set (off + j) c) off (j + 1)]
    rfl
theorem fill_layL {places : List (Nat × Nat)} : ∀ (parts : List (Nat × Value)) (zs out : List Value), layL places zs parts = some out → Instr.fill (places.toArray[·]?) zs.toArray parts = some out.toArray
  | [], zs, out, h => by simp [layL] at h; simp [Instr.fill, h]
  | (i, v) :: r, zs, out, h => by
    simp only [layL] at h
    split at h
    · rename_i off size hp
      rw [nth_eq] at hp
      cases hb : (Nat.beq (cl v).length size && Nat.ble (off + size) zs.length) with
      | false => rw [hb] at h; cases h
      | true =>
        rw [hb] at h
        simp only [cond_true] at h
        simp only [Bool.and_eq_true] at hb
        have h1 : (cl v).length = size := Nat.eq_of_beq_eq_true hb.1
        have h2 : off + size ≤ zs.length := Nat.le_of_ble_eq_true hb.2
        have h3 : v.cells.size = size := by rw [← h1]; simp [cl]
        have h4 : v.cells.zipIdx.foldl (fun (cs : Array Value) (p : Value × Nat) => cs.setIfInBounds (off + p.2) p.1) zs.toArray = (setR zs off (cl v)).toArray := by
          rw [← Array.foldl_toList, Array.toList_zipIdx]
          exact setR_fold _ _ _ _
        have hp' : places.toArray[i]? = some (off, size) := by simpa using hp
        simp only [Instr.fill, hp']
        rw [if_neg (by simp [h3]; omega)]
        have := fill_layL r (setR zs off (cl v)) out h
        rw [← this]
        exact congrArg (fun z => Instr.fill _ z r) h4
    · cases h
def evParts (e : Env) : List (Nat × Operand) → Option (List (Nat × Value))
  | [] => some []
  | (i, x) :: l => match ev e x, evParts e l with | some v, some vs => some ((i, v) :: vs) | _, _ => none
theorem evParts_eval {a : Act} (h : EnvOk e a) : ∀ {l : List (Nat × Operand)} {vs : List (Nat × Value)}, evParts e l = some vs → l.map (fun p => (p.1, a.eval p.2)) = vs
  | [], vs, hx => by simp [evParts] at hx; simp [hx]
  | (i, x) :: l, vs, hx => by
    simp only [evParts] at hx
    split at hx
    · rename_i v us h1 h2
      cases hx
      simp [ev_eval h h1, evParts_eval h h2]
    · cases hx
theorem Y.build {t : TypeId} {parts : List (Nat × Operand)} {vs : List (Nat × Value)} {places : List (Nat × Nat)} {zs out : List Value} (ht : StT P t places zs) (hp : evParts e parts = some vs) (ho : layL places zs vs = some out) :
    Yv P HH e ⟨d, .build t parts.toArray, ty, pos, af, g⟩ (.agg out.toArray) := fun a w he _ => by
  have h1 := ht.built vs _ (fill_layL vs zs out ho)
  have h2 := evParts_eval he hp
  have h3 : (parts.toArray.map fun (p : Nat × Operand) => (p.1, a.eval p.2)).toList = vs := by simpa using h2
  have h4 := run_build w t (parts.toArray.map fun (p : Nat × Operand) => (p.1, a.eval p.2)) out.toArray (by rw [h3]; exact h1)
  simp only [execOp, Sem.run_bind]
  rw [h4]
  rfl
end
end Go.Sx
