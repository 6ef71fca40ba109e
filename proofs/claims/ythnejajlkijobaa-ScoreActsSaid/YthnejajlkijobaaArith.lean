/- Numbers with a point: + - * /, whose NaN is any; bits; what is infinite. No program here. -/
import Derived.Test.YthnejajlkijobaaFloat
import Derived.Laws.FloatArith
import Derived.OpenShut
namespace Go.Sx
open Ieee

section
variable {cx : Cx} {rx : Rx} {rest : List (Bool × Oper)} {e : Env} {H : List HP}
/-- An operation whose guard was never asked. -/
theorem wanted_undef {a : Act} {ops : Array Oper} {j s : Nat} {b : Bool} {d : Option Nat} {op : Op} {ty : TypeId} {pos : String} {af : Array Edge} (he : EnvOk e a)
    (hj : (ops[j]?).bind (·.dst) = some s) (hl : look e s = some undef) : Region.wanted ⟨d, op, ty, pos, af, some (j, b)⟩ (yielded ops a.tmps) = false := by
  have h1 := he s _ hl
  simp [Region.wanted, yielded, hj, h1, undef]
theorem OL.dead {d : Nat} {op : Op} {ty : TypeId} {pos : String} {af : Array Edge} {j s : Nat} {b : Bool}
    (hj : (rx.ops[j]?).bind (·.dst) = some s) (hl : look e s = some undef) (hd : Nat.blt d cx.N = true)
    (h : OL cx rx rest ((d, undef) :: e) H) : OL cx rx ((false, ⟨some d, op, ty, pos, af, some (j, b)⟩) :: rest) e H := fun a w hs hR => by
  unfold wpX
  rw [wanted_undef hs.env hj hl, if_neg (by simp)]
  exact h _ _ (hs.put hd) hR
theorem OL.tdead {d : Nat} {op : Op} {ty : TypeId} {pos : String} {af : Array Edge} {j s : Nat} {b : Bool}
    (hj : (rx.ops[j]?).bind (·.dst) = some s) (hl : look e s = some undef) (hd : Nat.blt d cx.N = true)
    (h : OL cx rx rest ((d, undef) :: e) H) : OL cx rx ((true, ⟨some d, op, ty, pos, af, some (j, b)⟩) :: rest) e H := fun _ _ hs hR =>
  ⟨undef, .inr ⟨wanted_undef hs.env hj hl, rfl⟩, h _ _ (hs.put hd) hR⟩
end
/-- What an operation gave: the number that it has, or some NaN. -/
def opR (o : Option Nat) (r : Nat) : Prop := match o with | some q => r = q | none => nanD r = true
def arith (op : BinOp) (x y : Nat) : Option Nat := floatBits op .f64 x y

theorem nan_word (t : Nat) : nanD ((t % 2) * 2 ^ 63 + 0x7ff0000000000000 + 1 + (t / 2) % (2 ^ 52 - 1)) = true := by
  unfold nanD Format.read
  simp only [show double.binade = 2 ^ 52 from rfl, show double.infRung = 2047 * 2 ^ 52 from rfl, show double.signWeight = 2 ^ 63 from rfl]
  have h1 := Nat.mod_lt t (show 0 < 2 by decide)
  have h2 := Nat.mod_lt (t / 2) (show 0 < 2 ^ 52 - 1 by decide)
  generalize t % 2 = a at *
  generalize t / 2 % (2 ^ 52 - 1) = b at *
  have e : (a * 2 ^ 63 + 0x7ff0000000000000 + 1 + b) % 2 ^ 63 = 0x7ff0000000000000 + 1 + b := by omega
  rw [e, if_neg (by omega), if_neg (by omega), if_neg (by omega)]
  rfl

section
variable {cx : Cx} {rx : Rx} {rest : List (Bool × Oper)} {e : Env} {H : List HP} {ty : TypeId} {pos : String} {af : Array Edge}
theorem run_nan (P : Program) (w : World) (x y : Nat) : ∃ r w', (choose (.nanBits .f64 x y)).run P w = .ok r w' ∧ nanD r = true ∧ St w w' ∧ hp w' = hp w := by
  exact ⟨_, { w with drawn := w.drawn + 1 }, rfl, nan_word (w.tape w.drawn (.nanBits .f64 x y)), St.drawn w _, rfl⟩
theorem OL.arith {op : BinOp} {d : Nat} {t u : TypeId} {x y : Operand} {m n : Nat} (hop : op = .add ∨ op = .sub ∨ op = .mul ∨ op = .quo) (hx : ev e x = some (fl m)) (hy : ev e y = some (fl n)) (hd : Nat.blt d cx.N = true)
    (h : ∀ r, opR (Sx.arith op m n) r → Nx cx rx rest ((d, fl r) :: e) H) : OL cx rx ((false, ⟨some d, .binOp op t x y u, ty, pos, af, none⟩) :: rest) e H := by
  refine OL.does (fun v H' => ∃ r, opR (Sx.arith op m n) r ∧ v = fl r ∧ H' = H) hd ?_ ?_
  · intro a w he hs
    cases ha : Sx.arith op m n with
    | some r =>
      refine ⟨fl r, w, ?_, St.refl w, H, ⟨r, rfl, rfl, rfl⟩, hs⟩
      have := run_float_arith (P := cx.P) w op t .f64 m n r ha
      rcases hop with rfl | rfl | rfl | rfl <;> simp [execOp, ev_eval he hx, ev_eval he hy, eqGuard, this]
    | none =>
      obtain ⟨r, w', hr, hn, hst, hh⟩ := run_nan cx.P w m n
      refine ⟨fl r, w', ?_, hst, H, ⟨r, hn, rfl, rfl⟩, by rw [hh]; exact hs⟩
      unfold Sx.arith floatBits at ha
      rcases hop with rfl | rfl | rfl | rfl <;> (simp only at ha; simp [execOp, ev_eval he hx, ev_eval he hy, eqGuard, binOp, Op.floatArith, ha, hr])
  · rintro v H' ⟨r, hr, rfl, rfl⟩
    exact h r hr
end
section
variable {P : Program} {HH : List HP} {e : Env} {d : Option Nat} {ty : TypeId} {pos : String} {af : Array Edge} {g : Option (Nat × Bool)} {x y : Operand} {t u : TypeId}
theorem Y.andNot {k : IntKind} {m n : Int} (hx : ev e x = some (.int k m)) (hy : ev e y = some (.int k n)) : Yv P HH e ⟨d, .binOp .andNot t x y u, ty, pos, af, g⟩ (.int k (bits .andNot k m n)) := fun a w he _ => by
  simp [execOp, ev_eval he hx, ev_eval he hy, eqGuard, binOp, Op.intBits, bits]
theorem Y.and {k : IntKind} {m n : Int} (hx : ev e x = some (.int k m)) (hy : ev e y = some (.int k n)) : Yv P HH e ⟨d, .binOp .and t x y u, ty, pos, af, g⟩ (.int k (bits .and k m n)) := fun a w he _ => by
  simp [execOp, ev_eval he hx, ev_eval he hy, eqGuard, binOp, Op.intBits, bits]
theorem Y.convIF {s : TypeId} {k : IntKind} {sd : TypeDesc} {n : Int} (hs : P.underlying s = some sd) (ht : P.underlying t = some (.float .f64)) (hx : ev e x = some (.int k n)) : Yv P HH e ⟨d, .convert s t x, ty, pos, af, g⟩ (fl (FloatKind.f64.nearest n)) := fun a w he _ => by
  simp [execOp, ev_eval he hx, convert, run_underlying hs, run_underlying ht, Conv.intToFloat]
end

/-! ### what is infinite -/
abbrev maxF : Nat := 9218868437227405311
def infD (x : Nat) : Bool := (double.read x).isInfinity
theorem shl_mono {m M u U : Nat} (h : m ≤ M) (hu : u ≤ U) : m <<< u ≤ M <<< U := by
  rw [Nat.shiftLeft_eq, Nat.shiftLeft_eq]
  exact Nat.mul_le_mul h (Nat.pow_le_pow_right (by decide) hu)
theorem read_max : double.read maxF = .number false (2 ^ 53 - 1) 971 := by decide +kernel
theorem key_max : key maxF = ((2 ^ 53 - 1) <<< 2045 : Nat) := by unfold key; rw [read_max]; rfl
theorem nan_max : nanD maxF = false := by unfold nanD; rw [read_max]; rfl
theorem ford_gt {x y : Nat} (hx : nanD x = false) (hy : nanD y = false) : decide (ford x y = some .gt) = decide (key y < key x) := by
  rw [order_key hx hy]
  simp only [compare, compareOfLessAndEq]
  rw [Bool.eq_iff_iff]
  simp only [decide_eq_true_eq, Option.some.injEq]
  split
  · simp; omega
  · split
    · simp; omega
    · simp; omega
theorem gt_max {x : Nat} (hx : nanD x = false) : decide (ford x maxF = some .gt) = decide (double.read x = .infinity false) := by
  rw [ford_gt hx nan_max, key_max]
  have hb : (2 ^ 53 - 1) <<< 2045 < big := big_lt (by decide) (by decide)
  have hsm := fun m u (hm : m < 2 ^ 53) (hu : u ≤ 2045) => shl_mono (m := m) (M := 2 ^ 53 - 1) (u := u) (U := 2045) (by omega) hu
  have hs := read_spec x
  unfold key nanD at *
  generalize (2 ^ 53 - 1) <<< 2045 = M at *
  generalize double.read x = d at *
  have := big_pos
  cases d with
  | nan s f => simp [Datum.isNaN] at hx
  | infinity s => cases s <;> simp [fKey] <;> omega
  | number s m i =>
    obtain ⟨h1, h2, h3⟩ := hs
    have h4 := hsm m (i + 1074).toNat h3 (by omega)
    have hle : signed s m (i + 1074).toNat ≤ (M : Int) := by
      unfold signed
      generalize m <<< (i + 1074).toNat = q at h4 ⊢
      split <;> omega
    simp only [fKey, reduceCtorEq, decide_false]
    exact decide_eq_false (by omega)

/-- A word without its sign. -/
def absB (x : Nat) : Nat := (bits .andNot .u64 (x : Int) 9223372036854775808).toNat
theorem abs_mod {x : Nat} (h : x < 2 ^ 64) : absB x = x % 2 ^ 63 := by
  have e : bits .andNot .u64 (x : Int) 9223372036854775808 = ((x % 2 ^ 63 : Nat) : Int) := by
    unfold bits
    change IntKind.u64.wrap ((BitVec.ofInt 64 (x : Int) &&& ~~~(BitVec.ofInt 64 9223372036854775808)).toNat : Int) = _
    have e2 : ~~~(BitVec.ofInt 64 9223372036854775808) = BitVec.ofNat 64 (2 ^ 63 - 1) := by decide +kernel
    rw [BitVec.ofInt_natCast, e2, BitVec.toNat_and, BitVec.toNat_ofNat, BitVec.toNat_ofNat, Nat.mod_eq_of_lt h, Nat.mod_eq_of_lt (show 2 ^ 63 - 1 < 2 ^ 64 by decide), Nat.and_two_pow_sub_one_eq_mod]
    have := Nat.mod_lt x (show 0 < 2 ^ 63 by decide)
    generalize x % 2 ^ 63 = q at *
    simp [IntKind.wrap, IntKind.signed, IntKind.bits]
    omega
  unfold absB
  rw [e]
  rfl
theorem read_word (neg : Bool) (r : Nat) (h : r < 2 ^ 63) : double.read (double.word neg r) = if r < 2 ^ 52 then .number neg r (-1074) else if r < 2047 * 2 ^ 52 then .number neg (2 ^ 52 + r % 2 ^ 52) (-1074 + (r / 2 ^ 52 - 1 : Nat)) else if r = 2047 * 2 ^ 52 then .infinity neg else .nan neg (r - 2047 * 2 ^ 52) := by
  unfold Format.read Format.word
  simp only [show double.binade = 2 ^ 52 from rfl, show double.infRung = 2047 * 2 ^ 52 from rfl, show double.signWeight = 2 ^ 63 from rfl, show double.leastPlace = -1074 from rfl]
  cases neg with
  | true =>
    simp only [if_true]
    have e1 : (2 ^ 63 + r) / 2 ^ 63 % 2 = 1 := by omega
    have e2 : (2 ^ 63 + r) % 2 ^ 63 = r := by omega
    rw [e1, e2]
    rfl
  | false =>
    simp only [Bool.false_eq_true, if_false]
    have e1 : r / 2 ^ 63 % 2 = 0 := by omega
    have e2 : r % 2 ^ 63 = r := by omega
    rw [e1, e2]
    rfl
theorem read_as_word (x : Nat) : ∃ neg r, r < 2 ^ 63 ∧ double.read x = double.read (double.word neg r) ∧ r = x % 2 ^ 63 := by
  have hr := Nat.mod_lt x (show 0 < 2 ^ 63 by decide)
  refine ⟨x / 2 ^ 63 % 2 == 1, x % 2 ^ 63, hr, ?_, rfl⟩
  rw [read_word _ _ hr]
  rfl
theorem abs_read {x : Nat} (h : x < 2 ^ 64) : nanD (absB x) = nanD x ∧ (double.read (absB x) = .infinity false ↔ infD x = true) := by
  rw [abs_mod h]
  obtain ⟨neg, r, hr, e, er⟩ := read_as_word x
  unfold nanD infD
  rw [← er, e, show double.read r = double.read (double.word false r) from rfl, read_word _ _ hr, read_word _ _ hr]
  split
  · simp [Datum.isNaN, Datum.isInfinity]
  · split
    · simp [Datum.isNaN, Datum.isInfinity]
    · split <;> simp [Datum.isNaN, Datum.isInfinity]
/-- IsInf(x, 0), as the library tells it. -/
theorem isInf0 {x : Nat} (h : x < 2 ^ 64) (hx : nanD x = false) : decide (ford (absB x) maxF = some .gt) = infD x := by
  obtain ⟨h1, h2⟩ := abs_read h
  rw [gt_max (by rw [h1, hx]), Bool.eq_iff_iff, decide_eq_true_eq]
  exact h2

/-! ### twice a number -/
theorem near_normal (neg : Bool) (m : Nat) (i : Int) (h1 : 2 ^ 52 ≤ m) (h2 : m < 2 ^ 53) (hi : -1074 ≤ i) : double.nearest neg (2 ^ 52 * m) (i - 51) = double.word neg (min ((i + 1075).toNat * 2 ^ 52 + m) (2047 * 2 ^ 52)) := by
  unfold Format.nearest
  have hl : (2 ^ 52 * m).log2 = 104 := (Nat.log2_eq_iff (by omega)).2 ⟨by omega, by omega⟩
  rw [if_neg (by omega), hl]
  simp only [show double.binade = 2 ^ 52 from rfl, show double.infRung = 2047 * 2 ^ 52 from rfl, show double.leastPlace = -1074 from rfl, show double.fractionBits = 52 from rfl]
  have e1 : max (i - 51 + ((104 : Nat) : Int) - ((52 : Nat) : Int)) (-1074) = i + 1 := by omega
  rw [e1, show (i - 51 - (i + 1)).toNat = 0 by omega, show (i + 1 - (i - 51)).toNat = 52 by omega, show (i + 1 - -1074).toNat = (i + 1075).toNat by omega]
  unfold Toward.cut
  simp only [Nat.shiftLeft_zero, hl, show min 52 (104 + 2) = 52 from rfl, show 1 <<< 52 = 2 ^ 52 from rfl]
  rw [show 2 ^ 52 * m / 2 ^ 52 = m by omega, show 2 ^ 52 * m % 2 ^ 52 = 0 by omega]
  rfl
theorem near_sub (neg : Bool) (m : Nat) (h1 : 0 < m) (h2 : m < 2 ^ 52) : double.nearest neg (2 ^ 52 * m) (-1074 - 51) = double.word neg (2 * m) := by
  unfold Format.nearest
  have hm1 := Nat.log2_self_le (n := m) (by omega)
  have hm2 : m.log2 < 52 := (Nat.log2_lt (by omega)).2 h2
  have hl : (2 ^ 52 * m).log2 = 52 + m.log2 := (Nat.log2_eq_iff (by omega)).2 ⟨by rw [Nat.pow_add]; exact Nat.mul_le_mul_left _ hm1, by
    rw [Nat.add_assoc, Nat.pow_add]; exact Nat.mul_lt_mul_of_pos_left Nat.lt_log2_self (by decide)⟩
  rw [if_neg (by omega), hl]
  generalize m.log2 = l at *
  simp only [show double.binade = 2 ^ 52 from rfl, show double.infRung = 2047 * 2 ^ 52 from rfl, show double.leastPlace = -1074 from rfl, show double.fractionBits = 52 from rfl]
  have e1 : max (-1074 - 51 + ((52 + l : Nat) : Int) - ((52 : Nat) : Int)) (-1074) = -1074 := by omega
  rw [e1, show ((-1074 : Int) - 51 - -1074).toNat = 0 by decide, show ((-1074 : Int) - (-1074 - 51)).toNat = 51 by decide, show ((-1074 : Int) - -1074).toNat = 0 by decide]
  unfold Toward.cut
  simp only [Nat.shiftLeft_zero, hl, show min 51 (52 + l + 2) = 51 by omega, show 1 <<< 51 = 2 ^ 51 from rfl]
  rw [show 2 ^ 52 * m / 2 ^ 51 = 2 * m by omega, show 2 ^ 52 * m % 2 ^ 51 = 0 by omega]
  congr 1
  simp
  omega
abbrev two : Nat := 4611686018427387904
theorem read_two : double.read two = .number false (2 ^ 52) (-51) := by decide +kernel
theorem read_spec2 (x : Nat) : match double.read x with
    | .number _ m i => (i = -1074 ∧ m < 2 ^ 52) ∨ (2 ^ 52 ≤ m ∧ m < 2 ^ 53 ∧ -1074 ≤ i ∧ i ≤ 971)
    | .infinity _ => True
    | .nan .. => True := by
  unfold Format.read
  simp only [show double.binade = 2 ^ 52 from rfl, show double.infRung = 2047 * 2 ^ 52 from rfl, show double.leastPlace = -1074 from rfl]
  split
  · rename_i s m i h
    split at h
    · cases h; omega
    · split at h
      · cases h; omega
      · split at h <;> cases h
  · trivial
  · trivial
theorem signed_double (s : Bool) (m u : Nat) : signed s m (u + 1) = 2 * signed s m u := by
  have := signed_scale s m u 1
  rw [this]; simp; omega
theorem signed_two (s : Bool) (m u : Nat) : signed s (2 * m) u = 2 * signed s m u := by
  unfold signed
  rw [Nat.shiftLeft_eq, Nat.shiftLeft_eq, Nat.mul_assoc]
  split
  · rw [Int.natCast_mul]; omega
  · rw [Int.natCast_mul]; rfl
/-- x == 2*x tells, of what isn't nought, whether it is infinite. -/
theorem twice {x : Nat} (hx : nanD x = false) (h0 : key x ≠ 0) : ∃ r, arith .mul two x = some r ∧ decide (ford x r = some .eq) = infD x := by
  unfold arith floatBits
  show ∃ r, double.mul two x = some r ∧ _
  unfold Format.mul
  rw [read_two]
  have hs := read_spec2 x
  have hk := hx
  unfold nanD at hx
  unfold infD
  have hkx : key x = fKey (double.read x) := rfl
  rw [hkx] at h0
  generalize double.read x = d at hx hs h0 hkx ⊢
  cases d with
  | nan s f => simp [Datum.isNaN] at hx
  | infinity s =>
    refine ⟨double.word s (2047 * 2 ^ 52), by cases s <;> rfl, ?_⟩
    have hr : double.read (double.word s (2047 * 2 ^ 52)) = .infinity s := by rw [read_word _ _ (by decide)]; rfl
    rw [ford_eq hk (by unfold nanD; rw [hr]; rfl)]
    unfold key at hkx ⊢
    rw [hkx, hr]
    simp [Datum.isInfinity]
  | number s m i =>
    refine ⟨double.nearest s (2 ^ 52 * m) (i - 51), ?_, ?_⟩
    · have e : (-51 : Int) + i = i - 51 := by omega
      simp [Datum.product, Format.write, e]
    have fin : ∀ r, nanD r = false → key r = 2 * key x ∨ key r = (if s then -(big : Int) else big) → decide (ford x r = some .eq) = false := fun r hr hor => by
      rw [ford_eq hk hr, decide_eq_false_iff_not]
      rw [hkx] at hor ⊢
      intro e
      rcases hor with h | h
      · omega
      · have hb := key_bound s m i (by omega) (by omega)
        simp only [fKey] at e h
        rw [h] at e
        cases s <;> simp at e <;> omega
    show _ = false
    rcases hs with ⟨rfl, hm⟩ | ⟨hm1, hm2, hi1, hi2⟩
    · have hm0 : 0 < m := Nat.pos_of_ne_zero fun e => h0 (by subst e; cases s <;> simp [fKey, signed])
      rw [near_sub s m hm0 hm]
      have hr := read_word s (2 * m) (by omega)
      by_cases hlt : 2 * m < 2 ^ 52
      · rw [if_pos hlt] at hr
        refine fin _ (by unfold nanD; rw [hr]; rfl) (.inl ?_)
        rw [hkx]; unfold key; rw [hr]
        exact signed_two _ _ _
      · rw [if_neg hlt, if_pos (by omega), show 2 ^ 52 + 2 * m % 2 ^ 52 = 2 * m by omega, show 2 * m / 2 ^ 52 - 1 = 0 by omega] at hr
        refine fin _ (by unfold nanD; rw [hr]; rfl) (.inl ?_)
        rw [hkx]; unfold key; rw [hr]
        exact signed_two _ _ _
    · rw [near_normal s m i hm1 hm2 hi1]
      have hr := read_word s (min ((i + 1075).toNat * 2 ^ 52 + m) (2047 * 2 ^ 52)) (by omega)
      by_cases hlt : (i + 1075).toNat * 2 ^ 52 + m < 2047 * 2 ^ 52
      · rw [Nat.min_eq_left (by omega), if_neg (by omega), if_pos hlt] at hr
        rw [Nat.min_eq_left (by omega)]
        refine fin _ (by unfold nanD; rw [hr]; rfl) (.inl ?_)
        have e1 : 2 ^ 52 + ((i + 1075).toNat * 2 ^ 52 + m) % 2 ^ 52 = m := by omega
        have e2 : (-1074 + ((((i + 1075).toNat * 2 ^ 52 + m) / 2 ^ 52 - 1 : Nat) : Int) + 1074).toNat = (i + 1074).toNat + 1 := by omega
        rw [hkx]; unfold key; rw [hr]
        simp only [fKey]
        rw [e1, e2]
        exact signed_double _ _ _
      · rw [Nat.min_eq_right (by omega), if_neg (by omega), if_neg (by omega), if_pos rfl] at hr
        rw [Nat.min_eq_right (by omega)]
        refine fin _ (by unfold nanD; rw [hr]; rfl) (.inr ?_)
        unfold key; rw [hr]; rfl
end Go.Sx
