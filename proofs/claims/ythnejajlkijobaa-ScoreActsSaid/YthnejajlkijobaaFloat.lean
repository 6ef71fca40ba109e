/- Numbers with a point: comparisons; min and max of two integers; functions of the library that have no body here. No program here. -/
import Derived.Test.YthnejajlkijobaaSub
import Derived.Laws.FloatBits
namespace Go.Sx

abbrev fl (n : Nat) : Value := .float .f64 n
/-- How two of them stand to each other. -/
def ford (x y : Nat) : Option Ordering := Ieee.double.order x y
def isNan (x : Nat) : Bool := decide (ford x x ≠ some .eq)

section
variable {P : Program} {HH : List HP} {e : Env} {d : Option Nat} {ty : TypeId} {pos : String} {af : Array Edge} {g : Option (Nat × Bool)} {x y : Operand} {t u : TypeId} {m n : Nat}
theorem beq_dec {α : Type} [BEq α] [LawfulBEq α] [DecidableEq α] (a b : α) : (a == b) = decide (a = b) := by
  rw [Bool.eq_iff_iff]; simp
theorem bne_dec {α : Type} [BEq α] [LawfulBEq α] [DecidableEq α] (a b : α) : (a != b) = decide (a ≠ b) := by
  rw [Bool.eq_iff_iff]; simp
theorem Y.lssF (hx : ev e x = some (fl m)) (hy : ev e y = some (fl n)) : Yv P HH e ⟨d, .binOp .lss t x y u, ty, pos, af, g⟩ (.bool (decide (ford m n = some .lt))) := fun a w he _ => by
  simp [execOp, ev_eval he hx, ev_eval he hy, eqGuard, binOp, Op.floatCmp, ford, FloatKind.format]
  exact beq_dec _ _
theorem Y.gtrF (hx : ev e x = some (fl m)) (hy : ev e y = some (fl n)) : Yv P HH e ⟨d, .binOp .gtr t x y u, ty, pos, af, g⟩ (.bool (decide (ford m n = some .gt))) := fun a w he _ => by
  simp [execOp, ev_eval he hx, ev_eval he hy, eqGuard, binOp, Op.floatCmp, ford, FloatKind.format]
  exact beq_dec _ _
theorem Y.eqlF (hx : ev e x = some (fl m)) (hy : ev e y = some (fl n)) : Yv P HH e ⟨d, .binOp .eql t x y u, ty, pos, af, g⟩ (.bool (decide (ford m n = some .eq))) := fun a w he _ => by
  simp [execOp, ev_eval he hx, ev_eval he hy, eqGuard, binOp, Op.floatCmp, ford, FloatKind.format]
  exact beq_dec _ _
theorem Y.neqF (hx : ev e x = some (fl m)) (hy : ev e y = some (fl n)) : Yv P HH e ⟨d, .binOp .neq t x y u, ty, pos, af, g⟩ (.bool (decide (ford m n ≠ some .eq))) := fun a w he _ => by
  simp [execOp, ev_eval he hx, ev_eval he hy, eqGuard, binOp, Op.floatCmp, ford, FloatKind.format]
  exact bne_dec _ _
theorem Y.negF (hx : ev e x = some (fl m)) : Yv P HH e ⟨d, .unOp .neg t x, ty, pos, af, g⟩ (fl (Op.negFloat .f64 m)) := fun a w he _ => by
  simp [execOp, ev_eval he hx, Op.unary]
theorem Y.maxI {ats : Array TypeId} {k : IntKind} {i j : Int} (hx : ev e x = some (.int k i)) (hy : ev e y = some (.int k j)) : Yv P HH e ⟨d, .call ⟨.builtin .max, #[x, y], ats⟩, ty, pos, af, g⟩ (.int k (if j > i then j else i)) := fun a w he _ => by
  simp [execOp, resolve, invoke, builtin, Builtin.max_, Builtin.max2, ev_eval he hx, ev_eval he hy]
theorem Y.minI {ats : Array TypeId} {k : IntKind} {i j : Int} (hx : ev e x = some (.int k i)) (hy : ev e y = some (.int k j)) : Yv P HH e ⟨d, .call ⟨.builtin .min, #[x, y], ats⟩, ty, pos, af, g⟩ (.int k (if j < i then j else i)) := fun a w he _ => by
  simp [execOp, resolve, invoke, builtin, Builtin.min_, Builtin.min2, ev_eval he hx, ev_eval he hy]

/-- A call of a function of the library that has no body here. -/
theorem Y.ext {f : Nat} {fn : Func} {fop : Operand} {args : List Operand} {vs : List Value} {v : Value} {ats : Array TypeId} {E : Array Value → Sem Value} (hf : P.funcs[f]? = some fn)
    (hg : (fn.name == "runtime.NumGoroutine") = false ∧ fn.body.isNone = true ∧ (Extern.findNext fn).isNone = true) (hE : Extern.find fn = some E)
    (ho : ev e fop = some (.func (.func f) #[] #[])) (ha : evs e args = some vs) (hv : ∀ w, (E vs.toArray).run P w = .ok v w) :
    Yv P HH e ⟨d, .call ⟨.value fop, args.toArray, ats⟩, ty, pos, af, g⟩ v := fun a w he _ => by
  have h1 := evs_eval he ha
  obtain ⟨g1, g2, g3⟩ := hg
  have g4 : Extern.findNext fn = none := by simpa using g3
  have g5 : fn.body = none := by simpa using g2
  have g6 : fn.name ≠ "runtime.NumGoroutine" := by simpa using g1
  have hcall : (callFunc f vs.toArray).run P w = .ok (.value v) w := by
    simp [callFunc, go_sem, hf, g4, g5, g6, hE]
    rw [hv]; rfl
  simp [execOp, resolve, ev_eval he ho, Deferred.ofValue, invoke, h1, hcall]
end

/-! ### the order of those that are not NaN -/
open Ieee
def bigOf (a b : Nat) : Nat := 2 ^ a * 2 ^ b
theorem bigOf_pos (a b : Nat) : 0 < bigOf a b := Nat.mul_pos (Nat.two_pow_pos _) (Nat.two_pow_pos _)
theorem bigOf_lt {a b m u : Nat} (h3 : m < 2 ^ a) (hu : u ≤ b) : m <<< u < bigOf a b := by
  rw [Nat.shiftLeft_eq]
  exact Nat.lt_of_lt_of_le (Nat.mul_lt_mul_of_pos_right h3 (Nat.two_pow_pos _)) (Nat.mul_le_mul_left _ (Nat.pow_le_pow_right (by decide) hu))
attribute [irreducible] bigOf
def big : Nat := bigOf 53 2947
theorem big_pos : 0 < big := bigOf_pos _ _
theorem big_lt {m u : Nat} (h3 : m < 2 ^ 53) (hu : u ≤ 2947) : m <<< u < big := bigOf_lt h3 hu
def fKey (d : Datum) : Int :=
  match d with
  | .number s m i => signed s m (i + 1074).toNat
  | .infinity s => if s then -(big : Int) else big
  | .nan .. => 0
def key (x : Nat) : Int := fKey (double.read x)
def nanD (x : Nat) : Bool := (double.read x).isNaN

theorem signed_scale (s : Bool) (m u k : Nat) : signed s m (u + k) = signed s m u * (2 ^ k : Nat) := by
  unfold signed
  have : m <<< (u + k) = (m <<< u) * 2 ^ k := by rw [Nat.shiftLeft_eq, Nat.shiftLeft_eq, Nat.pow_add, Nat.mul_assoc]
  rw [this]
  split <;> simp [Int.neg_mul, Int.natCast_mul]
theorem compare_scale (a b : Int) {k : Nat} (hk : 0 < k) : compare (a * (k : Int)) (b * (k : Int)) = compare a b := by
  have hk' : (0 : Int) < k := by omega
  simp only [compare, compareOfLessAndEq]
  have h1 : a * (k : Int) < b * (k : Int) ↔ a < b := ⟨fun h => Int.lt_of_mul_lt_mul_right h (by omega), fun h => Int.mul_lt_mul_of_pos_right h hk'⟩
  have h2 : a * (k : Int) = b * (k : Int) ↔ a = b := ⟨fun h => Int.eq_of_mul_eq_mul_right (by omega) h, fun h => by rw [h]⟩
  simp [h1, h2]

/-- What is read lies within bounds. -/
theorem read_spec (x : Nat) : match double.read x with
    | .number _ m i => -1074 ≤ i ∧ i ≤ 971 ∧ m < 2 ^ 53
    | .infinity _ => True
    | .nan .. => True := by
  unfold Format.read
  simp only [show double.binade = 2 ^ 52 from rfl, show double.infRung = 2047 * 2 ^ 52 from rfl, show double.leastPlace = -1074 from rfl]
  split
  · rename_i s m i h
    split at h
    · cases h; refine ⟨by omega, by omega, by omega⟩
    · split at h
      · cases h
        refine ⟨by omega, ?_, by omega⟩
        omega
      · split at h <;> cases h
  · trivial
  · trivial
theorem key_bound (s : Bool) (m : Nat) (i : Int) (h2 : i ≤ 1800) (h3 : m < 2 ^ 53) : -(big : Int) < signed s m (i + 1074).toNat ∧ signed s m (i + 1074).toNat < (big : Int) := by
  have hu : (i + 1074).toNat ≤ 2947 := by omega
  generalize (i + 1074).toNat = u at hu
  have h4 := big_lt h3 hu
  unfold signed
  generalize m <<< u = q at h4
  generalize big = B at *
  split <;> constructor <;> omega

theorem order_key {x y : Nat} (hx : nanD x = false) (hy : nanD y = false) : ford x y = some (compare (key x) (key y)) := by
  unfold ford Format.order key nanD at *
  have h1 := read_spec x
  have h2 := read_spec y
  revert h1 h2 hx hy
  generalize double.read x = dx
  generalize double.read y = dy
  intro hx hy h1 h2
  have pos := big_pos
  cases dx with
  | nan s f => simp [Datum.isNaN] at hx
  | infinity s =>
    cases dy with
    | nan s f => simp [Datum.isNaN] at hy
    | infinity t =>
      simp only [Datum.order, fKey]
      generalize big = B at *
      cases s <;> cases t <;> simp [compare, compareOfLessAndEq] <;> (first | omega | (rw [if_neg (by omega), if_neg (by omega)]))
    | number t n j =>
      have hb := key_bound t n j (by omega) h2.2.2
      simp only [Datum.order, fKey]
      generalize signed t n (j + 1074).toNat = q at hb
      generalize big = B at *
      cases s <;> simp [compare, compareOfLessAndEq] <;> (first | omega | (rw [if_neg (by omega), if_neg (by omega)]))
  | number s m i =>
    cases dy with
    | nan s f => simp [Datum.isNaN] at hy
    | infinity t =>
      have hb := key_bound s m i (by omega) h1.2.2
      simp only [Datum.order, fKey]
      generalize signed s m (i + 1074).toNat = q at hb
      generalize big = B at *
      cases t <;> simp [compare, compareOfLessAndEq] <;> (first | omega | (rw [if_neg (by omega), if_neg (by omega)]))
    | number t n j =>
      obtain ⟨h1, -, -⟩ := h1
      obtain ⟨h2, -, -⟩ := h2
      simp only [Datum.order, fKey]
      have e1 : (i + 1074).toNat = (i - min i j).toNat + (min i j + 1074).toNat := by omega
      have e2 : (j + 1074).toNat = (j - min i j).toNat + (min i j + 1074).toNat := by omega
      rw [e1, e2, signed_scale, signed_scale, compare_scale _ _ (Nat.two_pow_pos _)]

theorem nan_none {x y : Nat} (h : nanD x = true ∨ nanD y = true) : ford x y = none := by
  unfold ford Format.order nanD at *
  generalize double.read x = dx at *
  generalize double.read y = dy at *
  cases dx <;> cases dy <;> simp_all [Datum.isNaN, Datum.order]
theorem isNan_eq (x : Nat) : isNan x = nanD x := by
  unfold isNan
  cases h : nanD x with
  | true => rw [nan_none (.inl h)]; rfl
  | false =>
    rw [order_key h h]
    simp [compare, compareOfLessAndEq]
theorem ford_lt {x y : Nat} (hx : nanD x = false) (hy : nanD y = false) : decide (ford x y = some .lt) = decide (key x < key y) := by
  rw [order_key hx hy]
  simp only [compare, compareOfLessAndEq]
  rw [Bool.eq_iff_iff]
  simp only [decide_eq_true_eq, Option.some.injEq]
  split
  · simp [*]
  · split <;> simp [*]
theorem ford_eq {x y : Nat} (hx : nanD x = false) (hy : nanD y = false) : decide (ford x y = some .eq) = decide (key x = key y) := by
  rw [order_key hx hy]
  simp only [compare, compareOfLessAndEq]
  rw [Bool.eq_iff_iff]
  simp only [decide_eq_true_eq, Option.some.injEq]
  split
  · simp; omega
  · split <;> simp [*]
end Go.Sx
