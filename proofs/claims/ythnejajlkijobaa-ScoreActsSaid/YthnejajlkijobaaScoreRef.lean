/- The document's table of scores: each of its functions yields what its Lean function says. -/
import Derived.Test.YthnejajlkijobaaScoreArith
namespace Go.Proofs.Ythnejajlkijobaa
open Go.Sx

theorem L63_0 : Fld Try.prog 63 0 0 := ⟨⟨_, Try.underlying63, _, rfl, rfl, 1, by decide, Try.sizeOf61⟩⟩
theorem L63_1 : Fld Try.prog 63 1 1 := ⟨⟨_, Try.underlying63, _, rfl, rfl, 1, by decide, Try.sizeOf48⟩⟩
theorem L63_2 : Fld Try.prog 63 2 2 := ⟨⟨_, Try.underlying63, _, rfl, rfl, 1, by decide, Try.sizeOf48⟩⟩
theorem B63 : StT Try.prog 63 [(0, 1), (1, 1), (2, 1)] [.slice none 0 0, .float .f64 0, .float .f64 0] := StT.of (it := Try.t63) (by kernel_rfl) Try.underlying63 rfl rfl (by kernel_rfl)


theorem opR_lt {o : Option Nat} {r : Nat} (h : opR o r) : decide (ford r 0 = some .lt) = decide (ford (o.getD nan1) 0 = some .lt) := by
  cases o with
  | some q => simp only [opR] at h; subst h; rfl
  | none =>
    rw [nan_none (.inl h)]
    show _ = decide (ford nan1 0 = some .lt)
    rw [nan_none (.inl nan_nan1)]
def minusF (x : Nat) : Bool := decide (ford x 0 = some .eq) && decide (ford ((arith .quo one1 x).getD nan1) 0 = some .lt)
def rankF (x : Nat) : Int := if isNan x then 0 else if ford x 0 = some .lt then 1 else if minusF x then 2 else if ford x 0 = some .eq then 3 else 4
def lessRF (x y : Nat) : Bool := if rankF x ≠ rankF y then decide (rankF x < rankF y) else decide (ford x y = some .lt)
def sameF (x y : Nat) : Bool := decide (rankF x = rankF y) && (decide (ford x y = some .eq) || isNan x)
theorem plus_zero : minusF 0 = false := by decide +kernel
theorem rank_plain {x : Nat} (hx : nanD x = false ∧ (key x = 0 → x = 0)) : rankF x = if key x < 0 then 1 else if key x = 0 then 3 else 4 := by
  have e1 : (ford x 0 = some .eq) ↔ key x = 0 := by
    have := ford_eq hx.1 nan0
    rw [key0] at this
    simpa using this
  have e2 : (ford x 0 = some .lt) ↔ key x < 0 := by
    have := ford_lt hx.1 nan0
    rw [key0] at this
    simpa using this
  have e3 : minusF x = false := by
    by_cases h : key x = 0
    · rw [hx.2 h]; exact plus_zero
    · unfold minusF
      rw [decide_eq_false (fun q => h (e1.1 q))]; rfl
  unfold rankF
  rw [isNan_eq, hx.1, e3]
  simp only [Bool.false_eq_true, if_false, e1, e2]
theorem lessR_plain {x y : Nat} (hx : nanD x = false ∧ (key x = 0 → x = 0)) (hy : nanD y = false ∧ (key y = 0 → y = 0)) : lessRF x y = decide (key x < key y) := by
  unfold lessRF
  rw [rank_plain hx, rank_plain hy, ford_lt hx.1 hy.1]
  by_cases a1 : key x < 0 <;> by_cases a2 : key x = 0 <;> by_cases b1 : key y < 0 <;> by_cases b2 : key y = 0 <;> simp only [a1, a2, b1, b2, if_true, if_false] <;> (first | omega | (simp; try omega))
/-- The same number, or NaN both. -/
def eqv (x y : Nat) : Prop := x = y ∨ (nanD x = true ∧ nanD y = true)
theorem same_eqv {x y : Nat} (h : eqv x y) : sameF x y = true := by
  unfold sameF
  rcases h with rfl | ⟨h1, h2⟩
  · cases hn : nanD x with
    | true => rw [isNan_eq, hn]; simp
    | false => rw [ford_eq hn hn]; simp
  · have e1 : rankF x = 0 := by unfold rankF; rw [isNan_eq, h1]; rfl
    have e2 : rankF y = 0 := by unfold rankF; rw [isNan_eq, h2]; rfl
    rw [e1, e2, isNan_eq, h1]; simp
theorem arith_nan {op : BinOp} {x y : Nat} (h : nanD x = true ∨ nanD y = true) : arith op x y = none := by
  unfold arith floatBits
  unfold nanD at h
  cases op <;> simp only [FloatKind.format, Ieee.Format.add, Ieee.Format.sub, Ieee.Format.mul, Ieee.Format.div] <;>
    (generalize Ieee.double.read x = dx at *; generalize Ieee.double.read y = dy at *; cases dx <;> cases dy <;> simp_all [Ieee.Datum.isNaN, Ieee.Datum.sum, Ieee.Datum.product, Ieee.Datum.quotient, Ieee.Datum.opposite])
theorem opR_eqv {o : Option Nat} {r s : Nat} (h : opR o r) (h' : opR o s) : eqv r s := by
  cases o with
  | some q => exact .inl (h.trans h'.symm)
  | none => exact .inr ⟨h, h'⟩
theorem arith_eqv {op : BinOp} {x x' y : Nat} (h : eqv x x') : arith op x y = arith op x' y ∧ arith op y x = arith op y x' := by
  rcases h with rfl | ⟨h1, h2⟩
  · exact ⟨rfl, rfl⟩
  · exact ⟨by rw [arith_nan (.inl h1), arith_nan (.inl h2)], by rw [arith_nan (.inr h1), arith_nan (.inr h2)]⟩
theorem high_eqv {x y : Nat} (h : eqv x y) : highF x = highF y := by
  rcases h with rfl | ⟨h1, h2⟩
  · rfl
  · unfold highF; rw [nan_none (.inl h1), nan_none (.inl h2)]
theorem step_eqv {b : Bool} {x y s s' : Nat} (h : eqv x y) (h1 : stepR b x s) (h2 : stepR b y s') : eqv s s' := by
  unfold stepR at h1 h2
  cases b with
  | false => simp at h1 h2; subst h1; subst h2; exact h
  | true =>
    simp only [if_true] at h1 h2
    rw [(arith_eqv h).1] at h1
    exact opR_eqv h1 h2
theorem fade_eqv {x y dc s s' : Nat} {xs x1 x2 : List Nat} (h : eqv x y) (h1 : fadeR x dc xs x1 s) (h2 : fadeR y dc xs x2 s') : x1 = x2 ∧ eqv s s' := by
  obtain ⟨s1, q1, e1, t1⟩ := h1
  obtain ⟨s2, q2, e2, t2⟩ := h2
  rw [(arith_eqv h).1] at q1
  have he := opR_eqv q1 q2
  rw [high_eqv he] at e1 t1
  exact ⟨e1.trans e2.symm, step_eqv he t1 t2⟩
theorem fade_good {x dc s : Nat} {xs x1 : List Nat} (hg : Good xs) (h1 : fadeR x dc xs x1 s) : Good x1 ∧ x1.length = xs.length := by
  obtain ⟨s1, q1, rfl, t1⟩ := h1
  split
  · exact ⟨good_map hg, by simp⟩
  · exact ⟨hg, rfl⟩
theorem bump_eqv {xs : List Nat} {k x y : Nat} (h : eqv x y) : bumpV xs k x = bumpV xs k y := by unfold bumpV; rw [(arith_eqv h).2]
theorem bump_eqvs {xs : List Nat} {k x y : Nat} (h : eqv x y) : bumpX xs k x = bumpX xs k y ∧ bumpB xs k x = bumpB xs k y := by
  unfold bumpX bumpB; rw [bump_eqv h]; exact ⟨rfl, rfl⟩
attribute [local irreducible] isNan below0 keptF lessF highF infD keptO


theorem rnan_any (x : Nat) :
    FS Try.prog 34 [fl x] (nothing) [] (fun v H => v = .bool (isNan x) ∧ H = []) := by
  refine FS.intro (N := 6) Try.func34 rfl rfl rfl (fun F w0 hF => ?_)
  refine CW.seq ?_
  refine CW.region ?_
  refine OL.q (Y.assign rfl) rfl ?_
  refine OL.nil ?_
  refine EX.seq ?_
  refine CW.seq ?_
  refine CW.region ?_
  refine OL.q (Y.move rfl) rfl ?_
  refine OL.q (Y.move rfl) rfl ?_
  refine OL.q (Y.neqF rfl rfl) rfl ?_
  refine OL.q (Y.assign rfl) rfl ?_
  refine OL.nil ?_
  refine EX.seq ?_
  refine CW.ret ?_
  exact EX.fin1 [] rfl rfl rfl ⟨by unfold isNan; rfl, rfl⟩

theorem rminus_any (x : Nat) :
    FS Try.prog 55 [fl x] (nothing) [] (fun v H => v = .bool (minusF x) ∧ H = []) := by
  refine FS.intro (N := 10) Try.func55 rfl rfl rfl (fun F w0 hF => ?_)
  refine CW.seq ?_
  refine CW.region ?_
  refine OL.q (Y.assign rfl) rfl ?_
  refine OL.nil ?_
  refine EX.seq ?_
  refine CW.seq ?_
  refine CW.region ?_
  refine OL.q (Y.move rfl) rfl ?_
  refine OL.q (Y.eqlF rfl rfl) rfl ?_
  refine OL.q (Y.move rfl) rfl ?_
  refine OL.guard (s := 5) rfl (fun g1_2 => ?_) (fun g1_2 => ?_)
  · have ng1_2 := g1_2
    repeat (first | replace ng1_2 := yes ng1_2 | replace ng1_2 := no ng1_2 | replace ng1_2 := nyes ng1_2 | replace ng1_2 := nno ng1_2)
    refine OL.on g1_2 rfl rfl ?_
    refine OL.q (Y.move rfl) rfl ?_
    refine OL.on g1_2 rfl rfl ?_
    refine OL.arith (by simp) rfl rfl rfl (fun r7 q7 => ⟨rfl, rfl, ?_⟩)
    refine OL.on g1_2 rfl rfl ?_
    refine OL.q (Y.lssF rfl rfl) rfl ?_
    refine OL.q (Y.pickT rfl g1_2 rfl) rfl ?_
    refine OL.q (Y.assign rfl) rfl ?_
    refine OL.nil ?_
    refine EX.seq ?_
    refine CW.ret ?_
    exact EX.fin1 [] rfl rfl rfl ⟨congrArg Value.bool (by unfold minusF; rw [g1_2, opR_lt q7]; rfl), rfl⟩
  · have ng1_2 := g1_2
    repeat (first | replace ng1_2 := yes ng1_2 | replace ng1_2 := no ng1_2 | replace ng1_2 := nyes ng1_2 | replace ng1_2 := nno ng1_2)
    refine OL.no g1_2 rfl rfl rfl ?_
    refine OL.no g1_2 rfl rfl rfl ?_
    refine OL.no g1_2 rfl rfl rfl ?_
    refine OL.q (Y.pickF rfl g1_2 rfl) rfl ?_
    refine OL.q (Y.assign rfl) rfl ?_
    refine OL.nil ?_
    refine EX.seq ?_
    refine CW.ret ?_
    exact EX.fin1 [] rfl rfl rfl ⟨congrArg Value.bool (by unfold minusF; rw [g1_2]; rfl), rfl⟩

attribute [local irreducible] minusF

theorem rrank_any (x : Nat) :
    FS Try.prog 50 [fl x] (nothing) [] (fun v H => v = .int .i64 (rankF x) ∧ H = []) := by
  refine FS.intro (N := 11) Try.func50 rfl rfl rfl (fun F w0 hF => ?_)
  refine CW.seq ?_
  refine CW.region ?_
  refine OL.q (Y.assign rfl) rfl ?_
  refine OL.nil ?_
  refine EX.seq ?_
  refine CW.seq ?_
  refine CW.seq ?_
  refine CW.region ?_
  refine OL.q (Y.move rfl) rfl ?_
  refine OL.call [] (rnan_any _) Try.call34 rfl rfl rfl rfl (Ent.nothing _) rfl ?_
  rintro _ _ ⟨rfl, rfl⟩
  refine ⟨rfl, rfl, ?_⟩
  refine OL.nil ?_
  refine EX.seq ?_
  refine CW.cond rfl (fun h0 => ?_) (fun h0 => ?_)
  · repeat (first | replace h0 := yes h0 | replace h0 := no h0 | replace h0 := nyes h0 | replace h0 := nno h0)
    refine CW.seq ?_
    refine CW.region ?_
    refine OL.q (Y.assign rfl) rfl ?_
    refine OL.nil ?_
    refine EX.seq ?_
    refine CW.ret ?_
    refine EX.retT ?_
    exact EX.fin1 [] rfl rfl rfl ⟨by unfold rankF; simp [*], rfl⟩
  · repeat (first | replace h0 := yes h0 | replace h0 := no h0 | replace h0 := nyes h0 | replace h0 := nno h0)
    refine CW.skip ?_
    refine EX.seq ?_
    refine CW.seq ?_
    refine CW.seq ?_
    refine CW.region ?_
    refine OL.q (Y.move rfl) rfl ?_
    refine OL.q (Y.lssF rfl rfl) rfl ?_
    refine OL.nil ?_
    refine EX.seq ?_
    refine CW.cond rfl (fun h1 => ?_) (fun h1 => ?_)
    · repeat (first | replace h1 := yes h1 | replace h1 := no h1 | replace h1 := nyes h1 | replace h1 := nno h1)
      refine CW.seq ?_
      refine CW.region ?_
      refine OL.q (Y.assign rfl) rfl ?_
      refine OL.nil ?_
      refine EX.seq ?_
      refine CW.ret ?_
      refine EX.retT ?_
      exact EX.fin1 [] rfl rfl rfl ⟨by unfold rankF; simp [*], rfl⟩
    · repeat (first | replace h1 := yes h1 | replace h1 := no h1 | replace h1 := nyes h1 | replace h1 := nno h1)
      refine CW.skip ?_
      refine EX.seq ?_
      refine CW.seq ?_
      refine CW.seq ?_
      refine CW.region ?_
      refine OL.q (Y.move rfl) rfl ?_
      refine OL.call [] (rminus_any _) Try.call55 rfl rfl rfl rfl (Ent.nothing _) rfl ?_
      rintro _ _ ⟨rfl, rfl⟩
      refine ⟨rfl, rfl, ?_⟩
      refine OL.nil ?_
      refine EX.seq ?_
      refine CW.cond rfl (fun h2 => ?_) (fun h2 => ?_)
      · repeat (first | replace h2 := yes h2 | replace h2 := no h2 | replace h2 := nyes h2 | replace h2 := nno h2)
        refine CW.seq ?_
        refine CW.region ?_
        refine OL.q (Y.assign rfl) rfl ?_
        refine OL.nil ?_
        refine EX.seq ?_
        refine CW.ret ?_
        refine EX.retT ?_
        exact EX.fin1 [] rfl rfl rfl ⟨by unfold rankF; simp [*], rfl⟩
      · repeat (first | replace h2 := yes h2 | replace h2 := no h2 | replace h2 := nyes h2 | replace h2 := nno h2)
        refine CW.skip ?_
        refine EX.seq ?_
        refine CW.seq ?_
        refine CW.seq ?_
        refine CW.region ?_
        refine OL.q (Y.move rfl) rfl ?_
        refine OL.q (Y.eqlF rfl rfl) rfl ?_
        refine OL.nil ?_
        refine EX.seq ?_
        refine CW.cond rfl (fun h3 => ?_) (fun h3 => ?_)
        · repeat (first | replace h3 := yes h3 | replace h3 := no h3 | replace h3 := nyes h3 | replace h3 := nno h3)
          refine CW.seq ?_
          refine CW.region ?_
          refine OL.q (Y.assign rfl) rfl ?_
          refine OL.nil ?_
          refine EX.seq ?_
          refine CW.ret ?_
          refine EX.retT ?_
          exact EX.fin1 [] rfl rfl rfl ⟨by unfold rankF; simp [*], rfl⟩
        · repeat (first | replace h3 := yes h3 | replace h3 := no h3 | replace h3 := nyes h3 | replace h3 := nno h3)
          refine CW.skip ?_
          refine EX.seq ?_
          refine CW.seq ?_
          refine CW.region ?_
          refine OL.q (Y.assign rfl) rfl ?_
          refine OL.nil ?_
          refine EX.seq ?_
          refine CW.ret ?_
          exact EX.fin1 [] rfl rfl rfl ⟨by unfold rankF; simp [*], rfl⟩

attribute [local irreducible] rankF

theorem rless_any (x y : Nat) :
    FS Try.prog 52 [fl x, fl y] (nothing) [] (fun v H => v = .bool (lessRF x y) ∧ H = []) := by
  refine FS.intro (N := 18) Try.func52 rfl rfl rfl (fun F w0 hF => ?_)
  refine CW.seq ?_
  refine CW.region ?_
  refine OL.q (Y.assign rfl) rfl ?_
  refine OL.nil ?_
  refine EX.seq ?_
  refine CW.seq ?_
  refine CW.seq ?_
  refine CW.region ?_
  refine OL.q (Y.move rfl) rfl ?_
  refine OL.call [] (rrank_any _) Try.call50 rfl rfl rfl rfl (Ent.nothing _) rfl ?_
  rintro _ _ ⟨rfl, rfl⟩
  refine ⟨rfl, rfl, ?_⟩
  refine OL.q (Y.move rfl) rfl ?_
  refine OL.call [] (rrank_any _) Try.call50 rfl rfl rfl rfl (Ent.nothing _) rfl ?_
  rintro _ _ ⟨rfl, rfl⟩
  refine ⟨rfl, rfl, ?_⟩
  refine OL.q (Y.neq rfl rfl) rfl ?_
  refine OL.nil ?_
  refine EX.seq ?_
  refine CW.cond rfl (fun h0 => ?_) (fun h0 => ?_)
  · repeat (first | replace h0 := yes h0 | replace h0 := no h0 | replace h0 := nyes h0 | replace h0 := nno h0)
    refine CW.seq ?_
    refine CW.region ?_
    refine OL.q (Y.move rfl) rfl ?_
    refine OL.call [] (rrank_any _) Try.call50 rfl rfl rfl rfl (Ent.nothing _) rfl ?_
    rintro _ _ ⟨rfl, rfl⟩
    refine ⟨rfl, rfl, ?_⟩
    refine OL.q (Y.move rfl) rfl ?_
    refine OL.call [] (rrank_any _) Try.call50 rfl rfl rfl rfl (Ent.nothing _) rfl ?_
    rintro _ _ ⟨rfl, rfl⟩
    refine ⟨rfl, rfl, ?_⟩
    refine OL.q (Y.lss rfl rfl) rfl ?_
    refine OL.q (Y.assign rfl) rfl ?_
    refine OL.nil ?_
    refine EX.seq ?_
    refine CW.ret ?_
    refine EX.retT ?_
    exact EX.fin1 [] rfl rfl rfl ⟨by unfold lessRF; rw [if_pos h0], rfl⟩
  · repeat (first | replace h0 := yes h0 | replace h0 := no h0 | replace h0 := nyes h0 | replace h0 := nno h0)
    refine CW.skip ?_
    refine EX.seq ?_
    refine CW.seq ?_
    refine CW.region ?_
    refine OL.q (Y.move rfl) rfl ?_
    refine OL.q (Y.move rfl) rfl ?_
    refine OL.q (Y.lssF rfl rfl) rfl ?_
    refine OL.q (Y.assign rfl) rfl ?_
    refine OL.nil ?_
    refine EX.seq ?_
    refine CW.ret ?_
    exact EX.fin1 [] rfl rfl rfl ⟨by unfold lessRF; rw [if_neg h0], rfl⟩

theorem rsame_any (x y : Nat) :
    FS Try.prog 32 [fl x, fl y] (nothing) [] (fun v H => v = .bool (sameF x y) ∧ H = []) := by
  refine FS.intro (N := 19) Try.func32 rfl rfl rfl (fun F w0 hF => ?_)
  refine CW.seq ?_
  refine CW.region ?_
  refine OL.q (Y.assign rfl) rfl ?_
  refine OL.nil ?_
  refine EX.seq ?_
  refine CW.seq ?_
  refine CW.region ?_
  refine OL.q (Y.move rfl) rfl ?_
  refine OL.call [] (rrank_any _) Try.call50 rfl rfl rfl rfl (Ent.nothing _) rfl ?_
  rintro _ _ ⟨rfl, rfl⟩
  refine ⟨rfl, rfl, ?_⟩
  refine OL.q (Y.move rfl) rfl ?_
  refine OL.call [] (rrank_any _) Try.call50 rfl rfl rfl rfl (Ent.nothing _) rfl ?_
  rintro _ _ ⟨rfl, rfl⟩
  refine ⟨rfl, rfl, ?_⟩
  refine OL.q (Y.eql rfl rfl) rfl ?_
  refine OL.q (Y.move rfl) rfl ?_
  refine OL.guard (s := 10) rfl (fun g1_5 => ?_) (fun g1_5 => ?_)
  · have ng1_5 := g1_5
    repeat (first | replace ng1_5 := yes ng1_5 | replace ng1_5 := no ng1_5 | replace ng1_5 := nyes ng1_5 | replace ng1_5 := nno ng1_5)
    refine OL.on g1_5 rfl rfl ?_
    refine OL.q (Y.move rfl) rfl ?_
    refine OL.on g1_5 rfl rfl ?_
    refine OL.q (Y.move rfl) rfl ?_
    refine OL.on g1_5 rfl rfl ?_
    refine OL.q (Y.eqlF rfl rfl) rfl ?_
    refine OL.on g1_5 rfl rfl ?_
    refine OL.q (Y.move rfl) rfl ?_
    refine OL.guard (s := 14) rfl (fun g1_9 => ?_) (fun g1_9 => ?_)
    · have ng1_9 := g1_9
      repeat (first | replace ng1_9 := yes ng1_9 | replace ng1_9 := no ng1_9 | replace ng1_9 := nyes ng1_9 | replace ng1_9 := nno ng1_9)
      refine OL.no g1_9 rfl rfl rfl ?_
      refine OL.no g1_9 rfl rfl rfl ?_
      refine OL.on g1_5 rfl rfl ?_
      refine OL.q (Y.pickT rfl g1_9 rfl) rfl ?_
      refine OL.q (Y.pickT rfl g1_5 rfl) rfl ?_
      refine OL.q (Y.assign rfl) rfl ?_
      refine OL.nil ?_
      refine EX.seq ?_
      refine CW.ret ?_
      exact EX.fin1 [] rfl rfl rfl ⟨congrArg Value.bool (by unfold sameF; simp_all), rfl⟩
    · have ng1_9 := g1_9
      repeat (first | replace ng1_9 := yes ng1_9 | replace ng1_9 := no ng1_9 | replace ng1_9 := nyes ng1_9 | replace ng1_9 := nno ng1_9)
      refine OL.on g1_9 rfl rfl ?_
      refine OL.q (Y.move rfl) rfl ?_
      refine OL.on g1_9 rfl rfl ?_
      refine OL.call [] (rnan_any _) Try.call34 rfl rfl rfl rfl (Ent.nothing _) rfl ?_
      rintro _ _ ⟨rfl, rfl⟩
      refine ⟨rfl, rfl, ?_⟩
      refine OL.on g1_5 rfl rfl ?_
      refine OL.q (Y.pickF rfl g1_9 rfl) rfl ?_
      refine OL.q (Y.pickT rfl g1_5 rfl) rfl ?_
      refine OL.q (Y.assign rfl) rfl ?_
      refine OL.nil ?_
      refine EX.seq ?_
      refine CW.ret ?_
      exact EX.fin1 [] rfl rfl rfl ⟨congrArg Value.bool (by unfold sameF; simp_all), rfl⟩
  · have ng1_5 := g1_5
    repeat (first | replace ng1_5 := yes ng1_5 | replace ng1_5 := no ng1_5 | replace ng1_5 := nyes ng1_5 | replace ng1_5 := nno ng1_5)
    refine OL.no g1_5 rfl rfl rfl ?_
    refine OL.no g1_5 rfl rfl rfl ?_
    refine OL.no g1_5 rfl rfl rfl ?_
    refine OL.no g1_5 rfl rfl rfl ?_
    refine OL.dead rfl rfl rfl ?_
    refine OL.dead rfl rfl rfl ?_
    refine OL.no g1_5 rfl rfl rfl ?_
    refine OL.q (Y.pickF rfl g1_5 rfl) rfl ?_
    refine OL.q (Y.assign rfl) rfl ?_
    refine OL.nil ?_
    refine EX.seq ?_
    refine CW.ret ?_
    exact EX.fin1 [] rfl rfl rfl ⟨congrArg Value.bool (by unfold sameF; simp_all), rfl⟩

theorem rinf_any (x : Nat) (hx : nanD x = false) :
    FS Try.prog 47 [fl x] (nothing) [] (fun v H => v = .bool (infD x) ∧ H = []) := by
  refine FS.intro (N := 16) Try.func47 rfl rfl rfl (fun F w0 hF => ?_)
  have e1 : decide (ford x x = some .eq) = true := by rw [ford_eq hx hx]; simp
  have e2 : decide (ford x 0 ≠ some .eq) = decide (key x ≠ 0) := by
    have := ford_eq hx nan0
    rw [key0] at this
    simp only [decide_not, this]
  refine CW.seq ?_
  refine CW.region ?_
  refine OL.q (Y.assign rfl) rfl ?_
  refine OL.nil ?_
  refine EX.seq ?_
  refine CW.seq ?_
  refine CW.region ?_
  refine OL.q (Y.move rfl) rfl ?_
  refine OL.q (Y.move rfl) rfl ?_
  refine OL.q (Y.eqlF rfl rfl) rfl ?_
  refine OL.q (Y.move rfl) rfl ?_
  refine OL.guard (s := 6) rfl (fun g1_3 => ?_) (fun g1_3 => ?_)
  · have ng1_3 := g1_3
    repeat (first | replace ng1_3 := yes ng1_3 | replace ng1_3 := no ng1_3 | replace ng1_3 := nyes ng1_3 | replace ng1_3 := nno ng1_3)
    refine OL.on g1_3 rfl rfl ?_
    refine OL.q (Y.move rfl) rfl ?_
    refine OL.on g1_3 rfl rfl ?_
    refine OL.q (Y.neqF rfl rfl) rfl ?_
    refine OL.q (Y.pickT rfl g1_3 rfl) rfl ?_
    refine OL.q (Y.move rfl) rfl ?_
    refine OL.guard (s := 10) rfl (fun g1_7 => ?_) (fun g1_7 => ?_)
    · have ng1_7 := g1_7
      repeat (first | replace ng1_7 := yes ng1_7 | replace ng1_7 := no ng1_7 | replace ng1_7 := nyes ng1_7 | replace ng1_7 := nno ng1_7)
      refine OL.on g1_7 rfl rfl ?_
      refine OL.q (Y.move rfl) rfl ?_
      refine OL.on g1_7 rfl rfl ?_
      refine OL.q (Y.move rfl) rfl ?_
      refine OL.on g1_7 rfl rfl ?_
      refine OL.arith (by simp) rfl rfl rfl (fun r13 q13 => ⟨rfl, rfl, ?_⟩)
      refine OL.on g1_7 rfl rfl ?_
      refine OL.q (Y.eqlF rfl rfl) rfl ?_
      refine OL.q (Y.pickT rfl g1_7 rfl) rfl ?_
      refine OL.q (Y.assign rfl) rfl ?_
      refine OL.nil ?_
      refine EX.seq ?_
      refine CW.ret ?_
      rw [e2] at g1_7
      obtain ⟨r, e3, e4⟩ := twice hx (of_decide_eq_true g1_7)
      rw [e3] at q13
      simp only [opR] at q13
      subst q13
      exact EX.fin1 [] rfl rfl rfl ⟨congrArg Value.bool e4, rfl⟩
    · have ng1_7 := g1_7
      repeat (first | replace ng1_7 := yes ng1_7 | replace ng1_7 := no ng1_7 | replace ng1_7 := nyes ng1_7 | replace ng1_7 := nno ng1_7)
      refine OL.no g1_7 rfl rfl rfl ?_
      refine OL.no g1_7 rfl rfl rfl ?_
      refine OL.no g1_7 rfl rfl rfl ?_
      refine OL.no g1_7 rfl rfl rfl ?_
      refine OL.q (Y.pickF rfl g1_7 rfl) rfl ?_
      refine OL.q (Y.assign rfl) rfl ?_
      refine OL.nil ?_
      refine EX.seq ?_
      refine CW.ret ?_
      rw [e2] at g1_7
      have hk0 : key x = 0 := by simpa using g1_7
      have e5 : infD x = false := by
        unfold infD
        unfold key at hk0
        cases hd : Ieee.double.read x with
        | nan s f => rfl
        | number s m i => rfl
        | infinity s =>
          rw [hd] at hk0
          have := big_pos
          cases s <;> simp [fKey] at hk0 <;> omega
      exact EX.fin1 [] rfl rfl rfl ⟨by rw [e5], rfl⟩
  · have ng1_3 := g1_3
    repeat (first | replace ng1_3 := yes ng1_3 | replace ng1_3 := no ng1_3 | replace ng1_3 := nyes ng1_3 | replace ng1_3 := nno ng1_3)
    exfalso
    rw [e1] at g1_3; cases g1_3

theorem rzero_any  :
    FS Try.prog 49 [] (nothing) [] (fun v H => v = .int .i64 0 ∧ H = []) := by
  refine FS.intro (N := 1) Try.func49 rfl rfl rfl (fun F w0 hF => ?_)
  refine CW.seq ?_
  refine CW.region ?_
  refine OL.q (Y.assign rfl) rfl ?_
  refine OL.nil ?_
  refine EX.seq ?_
  refine CW.seq ?_
  refine CW.region ?_
  refine OL.q (Y.assign rfl) rfl ?_
  refine OL.nil ?_
  refine EX.seq ?_
  refine CW.ret ?_
  exact EX.fin1 [] rfl rfl rfl ⟨rfl, rfl⟩

theorem rplain_any (x : Nat) :
    FS Try.prog 31 [fl x] (nothing) [] (fun v H => v = fl (keptF x) ∧ H = []) := by
  refine FS.intro (N := 11) Try.func31 rfl rfl rfl (fun F w0 hF => ?_)
  refine CW.seq ?_
  refine CW.region ?_
  refine OL.q (Y.assign rfl) rfl ?_
  refine OL.nil ?_
  refine EX.seq ?_
  refine CW.seq ?_
  refine CW.seq ?_
  refine CW.region ?_
  refine OL.q (Y.move rfl) rfl ?_
  refine OL.call [] (rnan_any _) Try.call34 rfl rfl rfl rfl (Ent.nothing _) rfl ?_
  rintro _ _ ⟨rfl, rfl⟩
  refine ⟨rfl, rfl, ?_⟩
  refine OL.nil ?_
  refine EX.seq ?_
  refine CW.cond rfl (fun h0 => ?_) (fun h0 => ?_)
  · repeat (first | replace h0 := yes h0 | replace h0 := no h0 | replace h0 := nyes h0 | replace h0 := nno h0)
    refine CW.seq ?_
    refine CW.region ?_
    refine OL.call [] (rzero_any) Try.call49 rfl rfl rfl rfl (Ent.nothing _) rfl ?_
    rintro _ _ ⟨rfl, rfl⟩
    refine ⟨rfl, rfl, ?_⟩
    refine OL.q (Y.convIF Try.underlying3 Try.underlying48 rfl) rfl ?_
    refine OL.arith (by simp) rfl rfl rfl (fun r7 q7 => ⟨rfl, rfl, ?_⟩)
    refine OL.q (Y.assign rfl) rfl ?_
    refine OL.nil ?_
    refine EX.seq ?_
    refine CW.ret ?_
    refine EX.retT ?_
    have e1 : arith .quo 13830554455654793216 (FloatKind.f64.nearest 0) = some minf := by decide +kernel
    rw [e1] at q7
    simp only [opR] at q7
    subst q7
    exact EX.fin1 [] rfl rfl rfl ⟨by unfold keptF; rw [if_pos h0], rfl⟩
  · repeat (first | replace h0 := yes h0 | replace h0 := no h0 | replace h0 := nyes h0 | replace h0 := nno h0)
    refine CW.skip ?_
    refine EX.seq ?_
    refine CW.seq ?_
    refine CW.seq ?_
    refine CW.region ?_
    refine OL.q (Y.move rfl) rfl ?_
    refine OL.q (Y.eqlF rfl rfl) rfl ?_
    refine OL.nil ?_
    refine EX.seq ?_
    refine CW.cond rfl (fun h1 => ?_) (fun h1 => ?_)
    · repeat (first | replace h1 := yes h1 | replace h1 := no h1 | replace h1 := nyes h1 | replace h1 := nno h1)
      refine CW.seq ?_
      refine CW.region ?_
      refine OL.q (Y.assign rfl) rfl ?_
      refine OL.nil ?_
      refine EX.seq ?_
      refine CW.ret ?_
      refine EX.retT ?_
      exact EX.fin1 [] rfl rfl rfl ⟨by unfold keptF; simp [h0, h1], rfl⟩
    · repeat (first | replace h1 := yes h1 | replace h1 := no h1 | replace h1 := nyes h1 | replace h1 := nno h1)
      refine CW.skip ?_
      refine EX.seq ?_
      refine CW.seq ?_
      refine CW.region ?_
      refine OL.q (Y.move rfl) rfl ?_
      refine OL.q (Y.assign rfl) rfl ?_
      refine OL.nil ?_
      refine EX.seq ?_
      refine CW.ret ?_
      exact EX.fin1 [] rfl rfl rfl ⟨by unfold keptF; simp [h0, h1], rfl⟩

theorem rless_all (t : Nat) (a : Option Addr) (n c : Nat) (xs : List Nat) (st dc : Nat) (hn : xs.length = n) (hg : Good xs) (hsm : n ≤ 1000000) :
    FS Try.prog 48 [.pointer (some ⟨t, 0, none⟩)] (nothing) [blk t [.slice a n c, fl st, fl dc] 63, row a n c 48 1 ((xs).map flCells)] (fun r H => r = .tuple #[] ∧ ∃ s, opR (arith .mul st lessC) s ∧ H = [blk t [.slice a n c, fl s, fl dc] 63, row a n c 48 1 ((xs.map lessX).map flCells)]) := by
  refine FS.intro (N := 44) Try.func48 rfl rfl rfl (fun F w0 hF => ?_)
  refine CW.seq ?_
  refine CW.seq ?_
  refine CW.region ?_
  refine OL.q (Y.assign rfl) rfl ?_
  refine OL.nil ?_
  refine EX.seq ?_
  refine CW.block ?_
  refine CW.loop (α := Nat) ⟨fun k => k ≤ n, fun k => [(0, .pointer (some ⟨t, 0, none⟩)), (2, .int .i64 k)], fun k => [blk t [.slice a n c, fl st, fl dc] 63, row a n c 48 1 ((lessTo xs k).map flCells)]⟩
    (fun k => n - k) 0 [0, 1] (Nat.zero_le _) ⟨rfl, rfl, trivial⟩ rfl (by show [_, _] = [_, _]; rw [lessTo_zero]) ?_
  intro k hk
  dsimp only at hk ⊢
  refine CW.seq ?_
  refine CW.seq ?_
  refine CW.region ?_
  refine OL.q (Y.move rfl) rfl ?_
  refine OL.q (Y.move rfl) rfl ?_
  refine OL.q (Y.nilCheck rfl) rfl ?_
  refine OL.q (Y.field L63_0 rfl) rfl ?_
  first | refine OL.q (Y.load T61 rfl (Ent.at 0 rfl (Up.cellIs _ _ _) (blk_cell rfl))) rfl ?_ | refine OL.q (Y.load T61 rfl (Ent.at 1 rfl (Up.cellIs _ _ _) (blk_cell rfl))) rfl ?_ | refine OL.q (Y.load T61 rfl (Ent.at 2 rfl (Up.cellIs _ _ _) (blk_cell rfl))) rfl ?_ | refine OL.q (Y.load T61 rfl (Ent.at 3 rfl (Up.cellIs _ _ _) (blk_cell rfl))) rfl ?_ | refine OL.q (Y.load T61 rfl (Ent.at 4 rfl (Up.cellIs _ _ _) (blk_cell rfl))) rfl ?_ | refine OL.q (Y.load T61 rfl (Ent.at 5 rfl (Up.cellIs _ _ _) (blk_cell rfl))) rfl ?_
  refine OL.q (Y.lenSl Try.underlying61 rfl) rfl ?_
  refine OL.q (Y.lss rfl rfl) rfl ?_
  refine OL.nil ?_
  refine EX.seq ?_
  refine CW.cond rfl (fun h0 => ?_) (fun h0 => ?_)
  · repeat (first | replace h0 := yes h0 | replace h0 := no h0 | replace h0 := nyes h0 | replace h0 := nno h0)
    obtain ⟨x, hx⟩ : ∃ p, xs[k]? = some p := ⟨_, List.getElem?_eq_getElem (by omega)⟩
    have hgx := hg x (mem_of hx)
    have hy := mget flCells (lessTo_at hx)
    refine CW.skip ?_
    refine EX.seq ?_
    refine CW.seq ?_
    refine CW.block ?_
    refine CW.seq ?_
    refine CW.region ?_
    refine OL.q (Y.move rfl) rfl ?_
    refine OL.q (Y.nilCheck rfl) rfl ?_
    refine OL.q (Y.field L63_0 rfl) rfl ?_
    first | refine OL.q (Y.load T61 rfl (Ent.at 0 rfl (Up.cellIs _ _ _) (blk_cell rfl))) rfl ?_ | refine OL.q (Y.load T61 rfl (Ent.at 1 rfl (Up.cellIs _ _ _) (blk_cell rfl))) rfl ?_ | refine OL.q (Y.load T61 rfl (Ent.at 2 rfl (Up.cellIs _ _ _) (blk_cell rfl))) rfl ?_ | refine OL.q (Y.load T61 rfl (Ent.at 3 rfl (Up.cellIs _ _ _) (blk_cell rfl))) rfl ?_ | refine OL.q (Y.load T61 rfl (Ent.at 4 rfl (Up.cellIs _ _ _) (blk_cell rfl))) rfl ?_ | refine OL.q (Y.load T61 rfl (Ent.at 5 rfl (Up.cellIs _ _ _) (blk_cell rfl))) rfl ?_
    refine OL.q (Y.move rfl) rfl ?_
    refine OL.q (Y.index (k := k) Try.underlying61 C48 rfl rfl (Ent.at 1 rfl (Up.rd _ _ _ _) row_rd) rfl (by omega)) rfl ?_
    refine OL.q (Y.load T48 rfl (cellsIs_at0 (rd_at (Ent.at 1 rfl (Up.rd _ _ _ _) row_rd) hy) rfl)) rfl ?_
    refine OL.call [] (rinf_any x hgx.2.1) Try.call47 rfl rfl rfl rfl (Ent.nothing _) rfl ?_
    rintro _ _ ⟨rfl, rfl⟩
    refine ⟨rfl, rfl, ?_⟩
    refine OL.q (Y.not rfl) rfl ?_
    refine OL.nil ?_
    refine EX.seq ?_
    refine CW.cond rfl (fun h1 => ?_) (fun h1 => ?_)
    · repeat (first | replace h1 := yes h1 | replace h1 := no h1 | replace h1 := nyes h1 | replace h1 := nno h1)
      refine CW.drawn [(true, 0), (true, 1), (true, 2), (true, 3), (true, 4), (true, 5), (true, 6), (true, 7), (true, 8), (true, 9), (true, 10), (true, 11), (false, 12), (false, 13)] [14, 15] [0, 1] mixed (by kernel_rfl) (by repeat (first | exact PanicOk.body | refine PanicOk.then ?_ | refine PanicOk.block ?_)) (by kernel_rfl) rfl rfl rfl rfl ?_
      refine OL.qt (Y.move rfl) rfl ?_
      refine OL.qt (Y.nilCheck rfl) rfl ?_
      refine OL.qt (Y.field L63_0 rfl) rfl ?_
      first | refine OL.qt (Y.load T61 rfl (Ent.at 0 rfl (Up.cellIs _ _ _) (blk_cell rfl))) rfl ?_ | refine OL.qt (Y.load T61 rfl (Ent.at 1 rfl (Up.cellIs _ _ _) (blk_cell rfl))) rfl ?_ | refine OL.qt (Y.load T61 rfl (Ent.at 2 rfl (Up.cellIs _ _ _) (blk_cell rfl))) rfl ?_ | refine OL.qt (Y.load T61 rfl (Ent.at 3 rfl (Up.cellIs _ _ _) (blk_cell rfl))) rfl ?_ | refine OL.qt (Y.load T61 rfl (Ent.at 4 rfl (Up.cellIs _ _ _) (blk_cell rfl))) rfl ?_ | refine OL.qt (Y.load T61 rfl (Ent.at 5 rfl (Up.cellIs _ _ _) (blk_cell rfl))) rfl ?_
      refine OL.qt (Y.move rfl) rfl ?_
      refine OL.qt (Y.move rfl) rfl ?_
      refine OL.qt (Y.nilCheck rfl) rfl ?_
      refine OL.qt (Y.field L63_0 rfl) rfl ?_
      first | refine OL.qt (Y.load T61 rfl (Ent.at 0 rfl (Up.cellIs _ _ _) (blk_cell rfl))) rfl ?_ | refine OL.qt (Y.load T61 rfl (Ent.at 1 rfl (Up.cellIs _ _ _) (blk_cell rfl))) rfl ?_ | refine OL.qt (Y.load T61 rfl (Ent.at 2 rfl (Up.cellIs _ _ _) (blk_cell rfl))) rfl ?_ | refine OL.qt (Y.load T61 rfl (Ent.at 3 rfl (Up.cellIs _ _ _) (blk_cell rfl))) rfl ?_ | refine OL.qt (Y.load T61 rfl (Ent.at 4 rfl (Up.cellIs _ _ _) (blk_cell rfl))) rfl ?_ | refine OL.qt (Y.load T61 rfl (Ent.at 5 rfl (Up.cellIs _ _ _) (blk_cell rfl))) rfl ?_
      refine OL.qt (Y.move rfl) rfl ?_
      refine OL.qt (Y.index (k := k) Try.underlying61 C48 rfl rfl (Ent.at 1 rfl (Up.rd _ _ _ _) row_rd) rfl (by omega)) rfl ?_
      refine OL.qt (Y.load T48 rfl (cellsIs_at0 (rd_at (Ent.at 1 rfl (Up.rd _ _ _ _) row_rd) hy) rfl)) rfl ?_
      refine OL.arith (by simp) rfl rfl rfl (fun r33 q33 => ⟨rfl, rfl, ?_⟩)
      refine OL.call [] (rplain_any r33) Try.call31 rfl rfl rfl rfl (Ent.nothing _) rfl ?_
      rintro _ _ ⟨rfl, rfl⟩
      refine ⟨rfl, rfl, ?_⟩
      refine OL.nil ?_
      refine EX.tail ?_
      refine OL.q (Y.index (k := k) Try.underlying61 C48 rfl rfl (Ent.at 1 rfl (Up.rd _ _ _ _) row_rd) rfl (by omega)) rfl ?_
      refine OL.storeRow (k := k) (j := 0) 1 rfl C48 rfl rfl (by omega) rfl rfl rfl hy (by simp [flCells]) ⟨rfl, rfl, ?_⟩
      refine OL.nil ?_
      refine EX.norB ?_
      refine EX.seq ?_
      refine CW.region ?_
      refine OL.q (Y.move rfl) rfl ?_
      first | refine OL.q (Y.add1 rfl rfl rfl (by omega)) rfl ?_ | refine OL.q (Y.addN rfl rfl (by omega)) rfl ?_ | refine OL.q (Y.add rfl rfl (by omega)) rfl ?_
      refine OL.q (Y.assign rfl) rfl ?_
      refine OL.nil ?_
      have e9 : keptF r33 = lessX x := by rw [opR_kept q33, lessX, if_neg (by simp [h1])]
      exact EX.next (k + 1) [0, 1] (show k + 1 ≤ n by omega) (show n - (k + 1) < n - k by omega) ⟨rfl, rfl, trivial⟩ rfl (by show [_, _] = [_, _]; rw [← lessTo_set hx, ← set_flat, e9])
    · repeat (first | replace h1 := yes h1 | replace h1 := no h1 | replace h1 := nyes h1 | replace h1 := nno h1)
      refine CW.skip ?_
      refine EX.norB ?_
      refine EX.seq ?_
      refine CW.region ?_
      refine OL.q (Y.move rfl) rfl ?_
      first | refine OL.q (Y.add1 rfl rfl rfl (by omega)) rfl ?_ | refine OL.q (Y.addN rfl rfl (by omega)) rfl ?_ | refine OL.q (Y.add rfl rfl (by omega)) rfl ?_
      refine OL.q (Y.assign rfl) rfl ?_
      refine OL.nil ?_
      exact EX.next (k + 1) [0, 1] (show k + 1 ≤ n by omega) (show n - (k + 1) < n - k by omega) ⟨rfl, rfl, trivial⟩ rfl (by show [_, _] = [_, _]; rw [← lessTo_skip hx (by rw [lessX, if_pos h1])])
  · repeat (first | replace h0 := yes h0 | replace h0 := no h0 | replace h0 := nyes h0 | replace h0 := nno h0)
    refine CW.exit ?_
    refine EX.exitT ?_
    refine EX.exitT ?_
    refine EX.exitB ?_
    refine EX.seq ?_
    refine CW.region ?_
    refine OL.q (Y.move rfl) rfl ?_
    refine OL.q (Y.move rfl) rfl ?_
    refine OL.q (Y.nilCheck rfl) rfl ?_
    refine OL.q (Y.field L63_1 rfl) rfl ?_
    first | refine OL.q (Y.load T48 rfl (Ent.at 0 rfl (Up.cellIs _ _ _) (blk_cell rfl))) rfl ?_ | refine OL.q (Y.load T48 rfl (Ent.at 1 rfl (Up.cellIs _ _ _) (blk_cell rfl))) rfl ?_ | refine OL.q (Y.load T48 rfl (Ent.at 2 rfl (Up.cellIs _ _ _) (blk_cell rfl))) rfl ?_ | refine OL.q (Y.load T48 rfl (Ent.at 3 rfl (Up.cellIs _ _ _) (blk_cell rfl))) rfl ?_ | refine OL.q (Y.load T48 rfl (Ent.at 4 rfl (Up.cellIs _ _ _) (blk_cell rfl))) rfl ?_ | refine OL.q (Y.load T48 rfl (Ent.at 5 rfl (Up.cellIs _ _ _) (blk_cell rfl))) rfl ?_
    refine OL.arith (by simp) rfl rfl rfl (fun r41 q41 => ⟨rfl, rfl, ?_⟩)
    refine OL.q (Y.nilCheck rfl) rfl ?_
    refine OL.q (Y.field L63_1 rfl) rfl ?_
    first | refine OL.store 0 rfl C48 rfl rfl rfl rfl rfl ⟨rfl, rfl, ?_⟩ | refine OL.store 1 rfl C48 rfl rfl rfl rfl rfl ⟨rfl, rfl, ?_⟩ | refine OL.store 2 rfl C48 rfl rfl rfl rfl rfl ⟨rfl, rfl, ?_⟩ | refine OL.store 3 rfl C48 rfl rfl rfl rfl rfl ⟨rfl, rfl, ?_⟩ | refine OL.store 4 rfl C48 rfl rfl rfl rfl rfl ⟨rfl, rfl, ?_⟩ | refine OL.store 5 rfl C48 rfl rfl rfl rfl rfl ⟨rfl, rfl, ?_⟩
    refine OL.nil ?_
    have hkn : k = n := by omega
    subst hkn
    rw [lessTo_all (by omega)]
    exact EX.fin0 (.inr rfl) [0, 1] rfl rfl ⟨rfl, r41, q41, rfl⟩

theorem rbump_any (t : Nat) (a : Option Addr) (n c : Nat) (xs : List Nat) (st dc : Nat) (k : Nat) (hn : xs.length = n) (hk : k < n) (hg : Good xs) (hsm : n ≤ 1000000) :
    FS Try.prog 28 [.pointer (some ⟨t, 0, none⟩), .int .i64 k] (nothing) [blk t [.slice a n c, fl st, fl dc] 63, row a n c 48 1 ((xs).map flCells)] (fun r H => r = .tuple #[] ∧ ∃ s, stepR (bumpB xs k st) st s ∧ H = [blk t [.slice a n c, fl s, fl dc] 63, row a n c 48 1 ((bumpX xs k st).map flCells)]) := by
  refine FS.intro (N := 34) Try.func28 rfl rfl rfl (fun F w0 hF => ?_)
  obtain ⟨x, hx⟩ : ∃ p, xs[k]? = some p := ⟨_, List.getElem?_eq_getElem (by omega)⟩
  have hy := mget flCells hx
  refine CW.seq ?_
  refine CW.drawn [(true, 0), (true, 1), (true, 2), (true, 3), (true, 4), (true, 5), (true, 6), (true, 7), (true, 8), (true, 9), (true, 10), (false, 11), (false, 12)] [13] [0, 1] mixed (by kernel_rfl) (by repeat (first | exact PanicOk.body | refine PanicOk.then ?_ | refine PanicOk.block ?_)) (by kernel_rfl) rfl rfl rfl rfl ?_
  refine OL.qt (Y.move rfl) rfl ?_
  refine OL.qt (Y.nilCheck rfl) rfl ?_
  refine OL.qt (Y.field L63_0 rfl) rfl ?_
  first | refine OL.qt (Y.load T61 rfl (Ent.at 0 rfl (Up.cellIs _ _ _) (blk_cell rfl))) rfl ?_ | refine OL.qt (Y.load T61 rfl (Ent.at 1 rfl (Up.cellIs _ _ _) (blk_cell rfl))) rfl ?_ | refine OL.qt (Y.load T61 rfl (Ent.at 2 rfl (Up.cellIs _ _ _) (blk_cell rfl))) rfl ?_ | refine OL.qt (Y.load T61 rfl (Ent.at 3 rfl (Up.cellIs _ _ _) (blk_cell rfl))) rfl ?_ | refine OL.qt (Y.load T61 rfl (Ent.at 4 rfl (Up.cellIs _ _ _) (blk_cell rfl))) rfl ?_ | refine OL.qt (Y.load T61 rfl (Ent.at 5 rfl (Up.cellIs _ _ _) (blk_cell rfl))) rfl ?_
  refine OL.qt (Y.move rfl) rfl ?_
  refine OL.qt (Y.index (k := k) Try.underlying61 C48 rfl rfl (Ent.at 1 rfl (Up.rd _ _ _ _) row_rd) rfl (by omega)) rfl ?_
  refine OL.qt (Y.load T48 rfl (cellsIs_at0 (rd_at (Ent.at 1 rfl (Up.rd _ _ _ _) row_rd) hy) rfl)) rfl ?_
  refine OL.qt (Y.move rfl) rfl ?_
  refine OL.qt (Y.nilCheck rfl) rfl ?_
  refine OL.qt (Y.field L63_1 rfl) rfl ?_
  first | refine OL.qt (Y.load T48 rfl (Ent.at 0 rfl (Up.cellIs _ _ _) (blk_cell rfl))) rfl ?_ | refine OL.qt (Y.load T48 rfl (Ent.at 1 rfl (Up.cellIs _ _ _) (blk_cell rfl))) rfl ?_ | refine OL.qt (Y.load T48 rfl (Ent.at 2 rfl (Up.cellIs _ _ _) (blk_cell rfl))) rfl ?_ | refine OL.qt (Y.load T48 rfl (Ent.at 3 rfl (Up.cellIs _ _ _) (blk_cell rfl))) rfl ?_ | refine OL.qt (Y.load T48 rfl (Ent.at 4 rfl (Up.cellIs _ _ _) (blk_cell rfl))) rfl ?_ | refine OL.qt (Y.load T48 rfl (Ent.at 5 rfl (Up.cellIs _ _ _) (blk_cell rfl))) rfl ?_
  refine OL.arith (by simp) rfl rfl rfl (fun r16 q16 => ⟨rfl, rfl, ?_⟩)
  refine OL.call [] (rplain_any r16) Try.call31 rfl rfl rfl rfl (Ent.nothing _) rfl ?_
  rintro _ _ ⟨rfl, rfl⟩
  refine ⟨rfl, rfl, ?_⟩
  refine OL.nil ?_
  refine EX.tail ?_
  refine OL.q (Y.assign rfl) rfl ?_
  refine OL.nil ?_
  refine EX.seq ?_
  refine CW.seq ?_
  refine CW.region ?_
  refine OL.q (Y.move rfl) rfl ?_
  refine OL.q (Y.nilCheck rfl) rfl ?_
  refine OL.q (Y.field L63_0 rfl) rfl ?_
  first | refine OL.q (Y.load T61 rfl (Ent.at 0 rfl (Up.cellIs _ _ _) (blk_cell rfl))) rfl ?_ | refine OL.q (Y.load T61 rfl (Ent.at 1 rfl (Up.cellIs _ _ _) (blk_cell rfl))) rfl ?_ | refine OL.q (Y.load T61 rfl (Ent.at 2 rfl (Up.cellIs _ _ _) (blk_cell rfl))) rfl ?_ | refine OL.q (Y.load T61 rfl (Ent.at 3 rfl (Up.cellIs _ _ _) (blk_cell rfl))) rfl ?_ | refine OL.q (Y.load T61 rfl (Ent.at 4 rfl (Up.cellIs _ _ _) (blk_cell rfl))) rfl ?_ | refine OL.q (Y.load T61 rfl (Ent.at 5 rfl (Up.cellIs _ _ _) (blk_cell rfl))) rfl ?_
  refine OL.q (Y.move rfl) rfl ?_
  refine OL.q (Y.move rfl) rfl ?_
  refine OL.q (Y.index (k := k) Try.underlying61 C48 rfl rfl (Ent.at 1 rfl (Up.rd _ _ _ _) row_rd) rfl (by omega)) rfl ?_
  refine OL.storeRow (k := k) (j := 0) 1 rfl C48 rfl rfl (by omega) rfl rfl rfl hy (by simp [flCells]) ⟨rfl, rfl, ?_⟩
  refine OL.nil ?_
  refine EX.seq ?_
  refine CW.seq ?_
  have e9 : keptF r16 = bumpV xs k st := by rw [opR_kept q16, bumpV, getD_at hx]
  have gv : Good1 (bumpV xs k st) := keptO_good
  have hg2 := good_set hg k gv
  rw [e9, set_flat]
  generalize hb : bumpV xs k st = b at *
  refine CW.region ?_
  refine OL.q (Y.move rfl) rfl ?_
  refine OL.q (Y.gtrF rfl rfl) rfl ?_
  refine OL.q (Y.move rfl) rfl ?_
  refine OL.guard (s := 27) rfl (fun g2_2 => ?_) (fun g2_2 => ?_)
  · have ng2_2 := g2_2
    repeat (first | replace ng2_2 := yes ng2_2 | replace ng2_2 := no ng2_2 | replace ng2_2 := nyes ng2_2 | replace ng2_2 := nno ng2_2)
    have g9 : highF b = true := by unfold highF; exact g2_2
    refine OL.on g2_2 rfl rfl ?_
    refine OL.q (Y.move rfl) rfl ?_
    refine OL.on g2_2 rfl rfl ?_
    refine OL.call [] (rinf_any b gv.2.1) Try.call47 rfl rfl rfl rfl (Ent.nothing _) rfl ?_
    rintro _ _ ⟨rfl, rfl⟩
    refine ⟨rfl, rfl, ?_⟩
    refine OL.on g2_2 rfl rfl ?_
    refine OL.q (Y.not rfl) rfl ?_
    refine OL.q (Y.pickT rfl g2_2 rfl) rfl ?_
    refine OL.nil ?_
    refine EX.seq ?_
    refine CW.cond rfl (fun h0 => ?_) (fun h0 => ?_)
    · repeat (first | replace h0 := yes h0 | replace h0 := no h0 | replace h0 := nyes h0 | replace h0 := nno h0)
      refine CW.region ?_
      refine OL.q (Y.move rfl) rfl ?_
      refine OL.call [0, 1] (rless_all t a n c _ _ dc (by simpa using hn) hg2 hsm) Try.call48 rfl rfl rfl rfl (Ent.nothing _) rfl ?_
      rintro _ _ ⟨rfl, s2, q2, rfl⟩
      refine ⟨rfl, rfl, ?_⟩
      refine OL.nil ?_
      have hbb : bumpB xs k st = true := by unfold bumpB; rw [hb, g9, h0]; rfl
      exact EX.fin0 (.inr rfl) [0, 1] rfl rfl ⟨rfl, s2, by unfold stepR; rw [hbb]; exact q2, by unfold bumpX; rw [hbb, hb]; rfl⟩
    · repeat (first | replace h0 := yes h0 | replace h0 := no h0 | replace h0 := nyes h0 | replace h0 := nno h0)
      refine CW.skip ?_
      have hbb : bumpB xs k st = false := by unfold bumpB; rw [hb, g9, h0]; rfl
      exact EX.fin0 (.inr rfl) [0, 1] rfl rfl ⟨rfl, st, by unfold stepR; rw [hbb]; rfl, by unfold bumpX; rw [hbb, hb]; rfl⟩
  · have ng2_2 := g2_2
    repeat (first | replace ng2_2 := yes ng2_2 | replace ng2_2 := no ng2_2 | replace ng2_2 := nyes ng2_2 | replace ng2_2 := nno ng2_2)
    have g9 : highF b = false := by unfold highF; exact g2_2
    refine OL.no g2_2 rfl rfl rfl ?_
    refine OL.no g2_2 rfl rfl rfl ?_
    refine OL.no g2_2 rfl rfl rfl ?_
    refine OL.q (Y.pickF rfl g2_2 rfl) rfl ?_
    refine OL.nil ?_
    refine EX.seq ?_
    refine CW.cond rfl (fun h0 => ?_) (fun h0 => ?_)
    · repeat (first | replace h0 := yes h0 | replace h0 := no h0 | replace h0 := nyes h0 | replace h0 := nno h0)
      exfalso
      contradiction
    repeat (first | replace h0 := yes h0 | replace h0 := no h0 | replace h0 := nyes h0 | replace h0 := nno h0)
    refine CW.skip ?_
    have hbb : bumpB xs k st = false := by unfold bumpB; rw [hb, g9]; rfl
    exact EX.fin0 (.inr rfl) [0, 1] rfl rfl ⟨rfl, st, by unfold stepR; rw [hbb]; rfl, by unfold bumpX; rw [hbb, hb]; rfl⟩

theorem rfade_any (t : Nat) (a : Option Addr) (n c : Nat) (xs : List Nat) (st dc : Nat) (hn : xs.length = n) (hg : Good xs) (hsm : n ≤ 1000000) :
    FS Try.prog 30 [.pointer (some ⟨t, 0, none⟩)] (nothing) [blk t [.slice a n c, fl st, fl dc] 63, row a n c 48 1 ((xs).map flCells)] (fun r H => r = .tuple #[] ∧ ∃ s xs2, fadeR st dc xs xs2 s ∧ H = [blk t [.slice a n c, fl s, fl dc] 63, row a n c 48 1 ((xs2).map flCells)]) := by
  refine FS.intro (N := 21) Try.func30 rfl rfl rfl (fun F w0 hF => ?_)
  refine CW.seq ?_
  refine CW.drawn [(true, 0), (true, 1), (true, 2), (true, 3), (true, 4), (true, 5), (true, 6), (true, 7), (true, 8), (false, 9)] [10, 11, 12] [0, 1] mixed (by kernel_rfl) (by repeat (first | exact PanicOk.body | refine PanicOk.then ?_ | refine PanicOk.block ?_)) (by kernel_rfl) rfl rfl rfl rfl ?_
  refine OL.qt (Y.move rfl) rfl ?_
  refine OL.qt (Y.move rfl) rfl ?_
  refine OL.qt (Y.nilCheck rfl) rfl ?_
  refine OL.qt (Y.field L63_1 rfl) rfl ?_
  first | refine OL.qt (Y.load T48 rfl (Ent.at 0 rfl (Up.cellIs _ _ _) (blk_cell rfl))) rfl ?_ | refine OL.qt (Y.load T48 rfl (Ent.at 1 rfl (Up.cellIs _ _ _) (blk_cell rfl))) rfl ?_ | refine OL.qt (Y.load T48 rfl (Ent.at 2 rfl (Up.cellIs _ _ _) (blk_cell rfl))) rfl ?_ | refine OL.qt (Y.load T48 rfl (Ent.at 3 rfl (Up.cellIs _ _ _) (blk_cell rfl))) rfl ?_ | refine OL.qt (Y.load T48 rfl (Ent.at 4 rfl (Up.cellIs _ _ _) (blk_cell rfl))) rfl ?_ | refine OL.qt (Y.load T48 rfl (Ent.at 5 rfl (Up.cellIs _ _ _) (blk_cell rfl))) rfl ?_
  refine OL.qt (Y.move rfl) rfl ?_
  refine OL.qt (Y.nilCheck rfl) rfl ?_
  refine OL.qt (Y.field L63_2 rfl) rfl ?_
  first | refine OL.qt (Y.load T48 rfl (Ent.at 0 rfl (Up.cellIs _ _ _) (blk_cell rfl))) rfl ?_ | refine OL.qt (Y.load T48 rfl (Ent.at 1 rfl (Up.cellIs _ _ _) (blk_cell rfl))) rfl ?_ | refine OL.qt (Y.load T48 rfl (Ent.at 2 rfl (Up.cellIs _ _ _) (blk_cell rfl))) rfl ?_ | refine OL.qt (Y.load T48 rfl (Ent.at 3 rfl (Up.cellIs _ _ _) (blk_cell rfl))) rfl ?_ | refine OL.qt (Y.load T48 rfl (Ent.at 4 rfl (Up.cellIs _ _ _) (blk_cell rfl))) rfl ?_ | refine OL.qt (Y.load T48 rfl (Ent.at 5 rfl (Up.cellIs _ _ _) (blk_cell rfl))) rfl ?_
  refine OL.arith (by simp) rfl rfl rfl (fun r11 q11 => ⟨rfl, rfl, ?_⟩)
  refine OL.nil ?_
  refine EX.tail ?_
  refine OL.q (Y.nilCheck rfl) rfl ?_
  refine OL.q (Y.field L63_1 rfl) rfl ?_
  first | refine OL.store 0 rfl C48 rfl rfl rfl rfl rfl ⟨rfl, rfl, ?_⟩ | refine OL.store 1 rfl C48 rfl rfl rfl rfl rfl ⟨rfl, rfl, ?_⟩ | refine OL.store 2 rfl C48 rfl rfl rfl rfl rfl ⟨rfl, rfl, ?_⟩ | refine OL.store 3 rfl C48 rfl rfl rfl rfl rfl ⟨rfl, rfl, ?_⟩ | refine OL.store 4 rfl C48 rfl rfl rfl rfl rfl ⟨rfl, rfl, ?_⟩ | refine OL.store 5 rfl C48 rfl rfl rfl rfl rfl ⟨rfl, rfl, ?_⟩
  refine OL.nil ?_
  refine EX.seq ?_
  refine CW.seq ?_
  refine CW.region ?_
  refine OL.q (Y.move rfl) rfl ?_
  refine OL.q (Y.nilCheck rfl) rfl ?_
  refine OL.q (Y.field L63_1 rfl) rfl ?_
  first | refine OL.q (Y.load T48 rfl (Ent.at 0 rfl (Up.cellIs _ _ _) (blk_cell rfl))) rfl ?_ | refine OL.q (Y.load T48 rfl (Ent.at 1 rfl (Up.cellIs _ _ _) (blk_cell rfl))) rfl ?_ | refine OL.q (Y.load T48 rfl (Ent.at 2 rfl (Up.cellIs _ _ _) (blk_cell rfl))) rfl ?_ | refine OL.q (Y.load T48 rfl (Ent.at 3 rfl (Up.cellIs _ _ _) (blk_cell rfl))) rfl ?_ | refine OL.q (Y.load T48 rfl (Ent.at 4 rfl (Up.cellIs _ _ _) (blk_cell rfl))) rfl ?_ | refine OL.q (Y.load T48 rfl (Ent.at 5 rfl (Up.cellIs _ _ _) (blk_cell rfl))) rfl ?_
  refine OL.q (Y.gtrF rfl rfl) rfl ?_
  refine OL.nil ?_
  refine EX.seq ?_
  refine CW.cond rfl (fun h0 => ?_) (fun h0 => ?_)
  · repeat (first | replace h0 := yes h0 | replace h0 := no h0 | replace h0 := nyes h0 | replace h0 := nno h0)
    have g9 : highF r11 = true := by unfold highF; exact decide_eq_true h0
    have hg2 := hg
    refine CW.region ?_
    refine OL.q (Y.move rfl) rfl ?_
    refine OL.call [0, 1] (rless_all t a n c _ _ dc (by simpa using hn) hg2 hsm) Try.call48 rfl rfl rfl rfl (Ent.nothing _) rfl ?_
    rintro _ _ ⟨rfl, s2, q2, rfl⟩
    refine ⟨rfl, rfl, ?_⟩
    refine OL.nil ?_
    exact EX.fin0 (.inr rfl) [0, 1] rfl rfl ⟨rfl, s2, xs.map lessX, ⟨r11, q11, by rw [g9]; rfl, by unfold stepR; rw [g9]; exact q2⟩, rfl⟩
  · repeat (first | replace h0 := yes h0 | replace h0 := no h0 | replace h0 := nyes h0 | replace h0 := nno h0)
    have g9 : highF r11 = false := by unfold highF; exact decide_eq_false h0
    refine CW.skip ?_
    exact EX.fin0 (.inr rfl) [0, 1] rfl rfl ⟨rfl, r11, xs, ⟨r11, q11, by rw [g9]; rfl, by unfold stepR; rw [g9]; rfl⟩, rfl⟩

theorem rnew_any (n : Int) (m dc : Nat) (hm : m ≤ 1048576) (hnm : (0 ≤ n ∧ n = m) ∨ (n < 0 ∧ m = 0)) :
    FS Try.prog 26 [.int .i64 n, fl dc] (nothing) [] (fun v H => ∃ t a, v = .pointer (some ⟨t, 0, none⟩) ∧ H = [blk t [.slice a m m, fl one1, fl (decayF dc)] 63, row a m m 48 1 ((List.replicate m 0).map flCells)]) := by
  refine FS.intro (N := 23) Try.func26 rfl rfl rfl (fun F w0 hF => ?_)
  refine CW.seq ?_
  refine CW.region ?_
  refine OL.q (Y.assign rfl) rfl ?_
  refine OL.nil ?_
  refine EX.seq ?_
  refine CW.seq ?_
  refine CW.seq ?_
  refine CW.region ?_
  refine OL.q (Y.move rfl) rfl ?_
  refine OL.q (Y.lss rfl rfl) rfl ?_
  refine OL.nil ?_
  refine EX.seq ?_
  refine CW.cond rfl (fun h0 => ?_) (fun h0 => ?_)
  · repeat (first | replace h0 := yes h0 | replace h0 := no h0 | replace h0 := nyes h0 | replace h0 := nno h0)
    obtain rfl : m = 0 := by omega
    refine CW.region ?_
    refine OL.q (Y.assign rfl) rfl ?_
    refine OL.nil ?_
    refine EX.seq ?_
    refine CW.seq ?_
    refine CW.region ?_
    refine OL.q (Y.move rfl) rfl ?_
    refine OL.make (l := 0) (c := 0) Try.underlying61 E48 rfl rfl rfl rfl (Nat.le_refl _) (by omega) (by omega) rfl (fun b9 => ⟨rfl, rfl, ?_⟩)
    refine OL.q (Y.build B63 rfl rfl) rfl ?_
    refine OL.box rfl rfl rfl (fun b11 => ⟨rfl, rfl, ?_⟩)
    refine OL.q (Y.assign rfl) rfl ?_
    refine OL.nil ?_
    refine EX.seq ?_
    refine CW.seq ?_
    refine CW.seq ?_
    refine CW.region ?_
    refine OL.q (Y.move rfl) rfl ?_
    refine OL.q (Y.gtrF rfl rfl) rfl ?_
    refine OL.q (Y.move rfl) rfl ?_
    refine OL.guard (s := 14) rfl (fun g4_2 => ?_) (fun g4_2 => ?_)
    · have ng4_2 := g4_2
      repeat (first | replace ng4_2 := yes ng4_2 | replace ng4_2 := no ng4_2 | replace ng4_2 := nyes ng4_2 | replace ng4_2 := nno ng4_2)
      refine OL.on g4_2 rfl rfl ?_
      refine OL.q (Y.move rfl) rfl ?_
      refine OL.on g4_2 rfl rfl ?_
      refine OL.q (Y.lssF rfl rfl) rfl ?_
      refine OL.q (Y.pickT rfl g4_2 rfl) rfl ?_
      refine OL.nil ?_
      refine EX.seq ?_
      refine CW.cond rfl (fun h1 => ?_) (fun h1 => ?_)
      · repeat (first | replace h1 := yes h1 | replace h1 := no h1 | replace h1 := nyes h1 | replace h1 := nno h1)
        refine CW.region ?_
        refine OL.q (Y.move rfl) rfl ?_
        refine OL.q (Y.move rfl) rfl ?_
        refine OL.q (Y.nilCheck rfl) rfl ?_
        refine OL.q (Y.field L63_2 rfl) rfl ?_
        first | refine OL.store 0 rfl C48 rfl rfl rfl rfl rfl ⟨rfl, rfl, ?_⟩ | refine OL.store 1 rfl C48 rfl rfl rfl rfl rfl ⟨rfl, rfl, ?_⟩ | refine OL.store 2 rfl C48 rfl rfl rfl rfl rfl ⟨rfl, rfl, ?_⟩ | refine OL.store 3 rfl C48 rfl rfl rfl rfl rfl ⟨rfl, rfl, ?_⟩ | refine OL.store 4 rfl C48 rfl rfl rfl rfl rfl ⟨rfl, rfl, ?_⟩ | refine OL.store 5 rfl C48 rfl rfl rfl rfl rfl ⟨rfl, rfl, ?_⟩
        refine OL.nil ?_
        refine EX.seq ?_
        refine CW.seq ?_
        refine CW.region ?_
        refine OL.q (Y.move rfl) rfl ?_
        refine OL.q (Y.assign rfl) rfl ?_
        refine OL.nil ?_
        refine EX.seq ?_
        refine CW.ret ?_
        refine EX.fin1 [1, 0] rfl rfl rfl ⟨b11, some ⟨b9, 0, none⟩, rfl, ?_⟩
        unfold decayF
        first | contradiction | (rw [if_pos ⟨ng4_2, h1⟩, map_rep]; rfl) | (rw [if_neg (fun q => by simp_all), map_rep]; rfl)
      · repeat (first | replace h1 := yes h1 | replace h1 := no h1 | replace h1 := nyes h1 | replace h1 := nno h1)
        refine CW.skip ?_
        refine EX.seq ?_
        refine CW.seq ?_
        refine CW.region ?_
        refine OL.q (Y.move rfl) rfl ?_
        refine OL.q (Y.assign rfl) rfl ?_
        refine OL.nil ?_
        refine EX.seq ?_
        refine CW.ret ?_
        refine EX.fin1 [1, 0] rfl rfl rfl ⟨b11, some ⟨b9, 0, none⟩, rfl, ?_⟩
        unfold decayF
        first | contradiction | (rw [if_pos ⟨ng4_2, h1⟩, map_rep]; rfl) | (rw [if_neg (fun q => by simp_all), map_rep]; rfl)
    · have ng4_2 := g4_2
      repeat (first | replace ng4_2 := yes ng4_2 | replace ng4_2 := no ng4_2 | replace ng4_2 := nyes ng4_2 | replace ng4_2 := nno ng4_2)
      refine OL.no g4_2 rfl rfl rfl ?_
      refine OL.no g4_2 rfl rfl rfl ?_
      refine OL.q (Y.pickF rfl g4_2 rfl) rfl ?_
      refine OL.nil ?_
      refine EX.seq ?_
      refine CW.cond rfl (fun h1 => ?_) (fun h1 => ?_)
      · repeat (first | replace h1 := yes h1 | replace h1 := no h1 | replace h1 := nyes h1 | replace h1 := nno h1)
        refine CW.region ?_
        refine OL.q (Y.move rfl) rfl ?_
        refine OL.q (Y.move rfl) rfl ?_
        refine OL.q (Y.nilCheck rfl) rfl ?_
        refine OL.q (Y.field L63_2 rfl) rfl ?_
        first | refine OL.store 0 rfl C48 rfl rfl rfl rfl rfl ⟨rfl, rfl, ?_⟩ | refine OL.store 1 rfl C48 rfl rfl rfl rfl rfl ⟨rfl, rfl, ?_⟩ | refine OL.store 2 rfl C48 rfl rfl rfl rfl rfl ⟨rfl, rfl, ?_⟩ | refine OL.store 3 rfl C48 rfl rfl rfl rfl rfl ⟨rfl, rfl, ?_⟩ | refine OL.store 4 rfl C48 rfl rfl rfl rfl rfl ⟨rfl, rfl, ?_⟩ | refine OL.store 5 rfl C48 rfl rfl rfl rfl rfl ⟨rfl, rfl, ?_⟩
        refine OL.nil ?_
        refine EX.seq ?_
        refine CW.seq ?_
        refine CW.region ?_
        refine OL.q (Y.move rfl) rfl ?_
        refine OL.q (Y.assign rfl) rfl ?_
        refine OL.nil ?_
        refine EX.seq ?_
        refine CW.ret ?_
        refine EX.fin1 [1, 0] rfl rfl rfl ⟨b11, some ⟨b9, 0, none⟩, rfl, ?_⟩
        unfold decayF
        first | contradiction | (rw [if_pos ⟨ng4_2, h1⟩, map_rep]; rfl) | (rw [if_neg (fun q => by simp_all), map_rep]; rfl)
      · repeat (first | replace h1 := yes h1 | replace h1 := no h1 | replace h1 := nyes h1 | replace h1 := nno h1)
        refine CW.skip ?_
        refine EX.seq ?_
        refine CW.seq ?_
        refine CW.region ?_
        refine OL.q (Y.move rfl) rfl ?_
        refine OL.q (Y.assign rfl) rfl ?_
        refine OL.nil ?_
        refine EX.seq ?_
        refine CW.ret ?_
        refine EX.fin1 [1, 0] rfl rfl rfl ⟨b11, some ⟨b9, 0, none⟩, rfl, ?_⟩
        unfold decayF
        first | contradiction | (rw [if_pos ⟨ng4_2, h1⟩, map_rep]; rfl) | (rw [if_neg (fun q => by simp_all), map_rep]; rfl)
  · repeat (first | replace h0 := yes h0 | replace h0 := no h0 | replace h0 := nyes h0 | replace h0 := nno h0)
    obtain rfl : n = (m : Int) := by omega
    refine CW.skip ?_
    refine EX.seq ?_
    refine CW.seq ?_
    refine CW.region ?_
    refine OL.q (Y.move rfl) rfl ?_
    refine OL.make (l := m) (c := m) Try.underlying61 E48 rfl rfl rfl rfl (Nat.le_refl _) (by omega) (by omega) rfl (fun b9 => ⟨rfl, rfl, ?_⟩)
    refine OL.q (Y.build B63 rfl rfl) rfl ?_
    refine OL.box rfl rfl rfl (fun b11 => ⟨rfl, rfl, ?_⟩)
    refine OL.q (Y.assign rfl) rfl ?_
    refine OL.nil ?_
    refine EX.seq ?_
    refine CW.seq ?_
    refine CW.seq ?_
    refine CW.region ?_
    refine OL.q (Y.move rfl) rfl ?_
    refine OL.q (Y.gtrF rfl rfl) rfl ?_
    refine OL.q (Y.move rfl) rfl ?_
    refine OL.guard (s := 14) rfl (fun g4_2 => ?_) (fun g4_2 => ?_)
    · have ng4_2 := g4_2
      repeat (first | replace ng4_2 := yes ng4_2 | replace ng4_2 := no ng4_2 | replace ng4_2 := nyes ng4_2 | replace ng4_2 := nno ng4_2)
      refine OL.on g4_2 rfl rfl ?_
      refine OL.q (Y.move rfl) rfl ?_
      refine OL.on g4_2 rfl rfl ?_
      refine OL.q (Y.lssF rfl rfl) rfl ?_
      refine OL.q (Y.pickT rfl g4_2 rfl) rfl ?_
      refine OL.nil ?_
      refine EX.seq ?_
      refine CW.cond rfl (fun h1 => ?_) (fun h1 => ?_)
      · repeat (first | replace h1 := yes h1 | replace h1 := no h1 | replace h1 := nyes h1 | replace h1 := nno h1)
        refine CW.region ?_
        refine OL.q (Y.move rfl) rfl ?_
        refine OL.q (Y.move rfl) rfl ?_
        refine OL.q (Y.nilCheck rfl) rfl ?_
        refine OL.q (Y.field L63_2 rfl) rfl ?_
        first | refine OL.store 0 rfl C48 rfl rfl rfl rfl rfl ⟨rfl, rfl, ?_⟩ | refine OL.store 1 rfl C48 rfl rfl rfl rfl rfl ⟨rfl, rfl, ?_⟩ | refine OL.store 2 rfl C48 rfl rfl rfl rfl rfl ⟨rfl, rfl, ?_⟩ | refine OL.store 3 rfl C48 rfl rfl rfl rfl rfl ⟨rfl, rfl, ?_⟩ | refine OL.store 4 rfl C48 rfl rfl rfl rfl rfl ⟨rfl, rfl, ?_⟩ | refine OL.store 5 rfl C48 rfl rfl rfl rfl rfl ⟨rfl, rfl, ?_⟩
        refine OL.nil ?_
        refine EX.seq ?_
        refine CW.seq ?_
        refine CW.region ?_
        refine OL.q (Y.move rfl) rfl ?_
        refine OL.q (Y.assign rfl) rfl ?_
        refine OL.nil ?_
        refine EX.seq ?_
        refine CW.ret ?_
        refine EX.fin1 [1, 0] rfl rfl rfl ⟨b11, some ⟨b9, 0, none⟩, rfl, ?_⟩
        unfold decayF
        first | contradiction | (rw [if_pos ⟨ng4_2, h1⟩, map_rep]; rfl) | (rw [if_neg (fun q => by simp_all), map_rep]; rfl)
      · repeat (first | replace h1 := yes h1 | replace h1 := no h1 | replace h1 := nyes h1 | replace h1 := nno h1)
        refine CW.skip ?_
        refine EX.seq ?_
        refine CW.seq ?_
        refine CW.region ?_
        refine OL.q (Y.move rfl) rfl ?_
        refine OL.q (Y.assign rfl) rfl ?_
        refine OL.nil ?_
        refine EX.seq ?_
        refine CW.ret ?_
        refine EX.fin1 [1, 0] rfl rfl rfl ⟨b11, some ⟨b9, 0, none⟩, rfl, ?_⟩
        unfold decayF
        first | contradiction | (rw [if_pos ⟨ng4_2, h1⟩, map_rep]; rfl) | (rw [if_neg (fun q => by simp_all), map_rep]; rfl)
    · have ng4_2 := g4_2
      repeat (first | replace ng4_2 := yes ng4_2 | replace ng4_2 := no ng4_2 | replace ng4_2 := nyes ng4_2 | replace ng4_2 := nno ng4_2)
      refine OL.no g4_2 rfl rfl rfl ?_
      refine OL.no g4_2 rfl rfl rfl ?_
      refine OL.q (Y.pickF rfl g4_2 rfl) rfl ?_
      refine OL.nil ?_
      refine EX.seq ?_
      refine CW.cond rfl (fun h1 => ?_) (fun h1 => ?_)
      · repeat (first | replace h1 := yes h1 | replace h1 := no h1 | replace h1 := nyes h1 | replace h1 := nno h1)
        refine CW.region ?_
        refine OL.q (Y.move rfl) rfl ?_
        refine OL.q (Y.move rfl) rfl ?_
        refine OL.q (Y.nilCheck rfl) rfl ?_
        refine OL.q (Y.field L63_2 rfl) rfl ?_
        first | refine OL.store 0 rfl C48 rfl rfl rfl rfl rfl ⟨rfl, rfl, ?_⟩ | refine OL.store 1 rfl C48 rfl rfl rfl rfl rfl ⟨rfl, rfl, ?_⟩ | refine OL.store 2 rfl C48 rfl rfl rfl rfl rfl ⟨rfl, rfl, ?_⟩ | refine OL.store 3 rfl C48 rfl rfl rfl rfl rfl ⟨rfl, rfl, ?_⟩ | refine OL.store 4 rfl C48 rfl rfl rfl rfl rfl ⟨rfl, rfl, ?_⟩ | refine OL.store 5 rfl C48 rfl rfl rfl rfl rfl ⟨rfl, rfl, ?_⟩
        refine OL.nil ?_
        refine EX.seq ?_
        refine CW.seq ?_
        refine CW.region ?_
        refine OL.q (Y.move rfl) rfl ?_
        refine OL.q (Y.assign rfl) rfl ?_
        refine OL.nil ?_
        refine EX.seq ?_
        refine CW.ret ?_
        refine EX.fin1 [1, 0] rfl rfl rfl ⟨b11, some ⟨b9, 0, none⟩, rfl, ?_⟩
        unfold decayF
        first | contradiction | (rw [if_pos ⟨ng4_2, h1⟩, map_rep]; rfl) | (rw [if_neg (fun q => by simp_all), map_rep]; rfl)
      · repeat (first | replace h1 := yes h1 | replace h1 := no h1 | replace h1 := nyes h1 | replace h1 := nno h1)
        refine CW.skip ?_
        refine EX.seq ?_
        refine CW.seq ?_
        refine CW.region ?_
        refine OL.q (Y.move rfl) rfl ?_
        refine OL.q (Y.assign rfl) rfl ?_
        refine OL.nil ?_
        refine EX.seq ?_
        refine CW.ret ?_
        refine EX.fin1 [1, 0] rfl rfl rfl ⟨b11, some ⟨b9, 0, none⟩, rfl, ?_⟩
        unfold decayF
        first | contradiction | (rw [if_pos ⟨ng4_2, h1⟩, map_rep]; rfl) | (rw [if_neg (fun q => by simp_all), map_rep]; rfl)


def wOf (b : Int) (f : Bool) : Int := if f then b else -1
theorem rless_plain_any (x y : Nat) (hx : nanD x = false ∧ (key x = 0 → x = 0)) (hy : nanD y = false ∧ (key y = 0 → y = 0)) : FS Try.prog 52 [fl x, fl y] nothing [] (fun v H => v = .bool (decide (key x < key y)) ∧ H = []) := by
  have := rless_any x y
  rwa [lessR_plain hx hy] at this


theorem rbest_any (t : Nat) (a : Option Addr) (n c : Nat) (xs : List Nat) (st dc : Nat) (la : Option Addr) (ln lc : Nat) (l : List Int) (hn : xs.length = n) (hl : l.length = ln) (hpl : Plain xs) (hsm : ln ≤ 1000000) :
    FS Try.prog 36 [.pointer (some ⟨t, 0, none⟩), .slice la ln lc] (rd la ln 1 (l.map intCells)) [blk t [.slice a n c, fl st, fl dc] 63, row a n c 48 1 ((xs).map flCells)] (fun r H => (∃ b f, r = .int .i64 (wOf b f) ∧ BestIs n xs l b f) ∧ H = [blk t [.slice a n c, fl st, fl dc] 63, row a n c 48 1 ((xs).map flCells)]) := by
  refine FS.intro (N := 73) Try.func36 rfl rfl rfl (fun F w0 hF => ?_)
  refine CW.seq ?_
  refine CW.region ?_
  refine OL.q (Y.assign rfl) rfl ?_
  refine OL.nil ?_
  refine EX.seq ?_
  refine CW.seq ?_
  refine CW.region ?_
  refine OL.q (Y.assign rfl) rfl ?_
  refine OL.nil ?_
  refine EX.seq ?_
  refine CW.seq ?_
  refine CW.seq ?_
  refine CW.region ?_
  refine OL.q (Y.assign rfl) rfl ?_
  refine OL.nil ?_
  refine EX.seq ?_
  refine CW.block ?_
  refine CW.loop (α := Nat × Int × Bool) ⟨fun x => x.1 ≤ ln ∧ BestIs n xs (l.take x.1) x.2.1 x.2.2, fun x => [(0, .pointer (some ⟨t, 0, none⟩)), (1, .slice la ln lc), (5, .int .i64 (wOf x.2.1 x.2.2)), (6, .int .i64 x.1)], fun _ => [blk t [.slice a n c, fl st, fl dc] 63, row a n c 48 1 ((xs).map flCells)]⟩
    (fun x => ln - x.1) (0, 0, false) [0, 1] ⟨Nat.zero_le _, BestIs.nil⟩ ⟨rfl, rfl, rfl, rfl, trivial⟩ rfl rfl ?_
  rintro ⟨i, b, f⟩ ⟨hi, hB⟩
  dsimp only at hi hB ⊢
  refine CW.seq ?_
  refine CW.seq ?_
  refine CW.region ?_
  refine OL.q (Y.move rfl) rfl ?_
  refine OL.q (Y.move rfl) rfl ?_
  refine OL.q (Y.lenSl Try.underlying28 rfl) rfl ?_
  refine OL.q (Y.lss rfl rfl) rfl ?_
  refine OL.nil ?_
  refine EX.seq ?_
  refine CW.cond rfl (fun h0 => ?_) (fun h0 => ?_)
  · repeat (first | replace h0 := yes h0 | replace h0 := no h0 | replace h0 := nyes h0 | replace h0 := nno h0)
    obtain ⟨v, hp⟩ : ∃ p, l[i]? = some p := ⟨_, List.getElem?_eq_getElem (by omega)⟩
    refine CW.skip ?_
    refine EX.seq ?_
    refine CW.seq ?_
    refine CW.block ?_
    refine CW.seq ?_
    refine CW.region ?_
    refine OL.q (Y.move rfl) rfl ?_
    refine OL.q (Y.move rfl) rfl ?_
    refine OL.q (Y.index Try.underlying28 C3 rfl rfl (Ent.frame (Up.rd _ _ _ _) hF) rfl (by omega)) rfl ?_
    refine OL.q (Y.load T3 rfl (cellsIs_at0 (rd_at (Ent.frame (Up.rd _ _ _ _) hF) (mget intCells hp)) rfl)) rfl ?_
    refine OL.q (Y.assign rfl) rfl ?_
    refine OL.nil ?_
    refine EX.seq ?_
    refine CW.seq ?_
    refine CW.seq ?_
    refine CW.region ?_
    refine OL.q (Y.move rfl) rfl ?_
    refine OL.q (Y.lss rfl rfl) rfl ?_
    refine OL.q (Y.move rfl) rfl ?_
    refine OL.guard (s := 20) rfl (fun g6_2 => ?_) (fun g6_2 => ?_)
    · have ng6_2 := g6_2
      repeat (first | replace ng6_2 := yes ng6_2 | replace ng6_2 := no ng6_2 | replace ng6_2 := nyes ng6_2 | replace ng6_2 := nno ng6_2)
      refine OL.no g6_2 rfl rfl rfl ?_
      refine OL.no g6_2 rfl rfl rfl ?_
      refine OL.no g6_2 rfl rfl rfl ?_
      refine OL.no g6_2 rfl rfl rfl ?_
      refine OL.no g6_2 rfl rfl rfl ?_
      refine OL.no g6_2 rfl rfl rfl ?_
      refine OL.no g6_2 rfl rfl rfl ?_
      refine OL.q (Y.pickT rfl g6_2 rfl) rfl ?_
      refine OL.nil ?_
      refine EX.seq ?_
      refine CW.cond rfl (fun h1 => ?_) (fun h1 => ?_)
      rotate_left
      · repeat (first | replace h1 := yes h1 | replace h1 := no h1 | replace h1 := nyes h1 | replace h1 := nno h1)
        exfalso
        first | omega | contradiction | exact absurd rfl h1 | exact absurd h1 (by simp) | exact absurd h1 (by decide)
      repeat (first | replace h1 := yes h1 | replace h1 := no h1 | replace h1 := nyes h1 | replace h1 := nno h1)
      have hno : ¬ okV n v := fun q => by have := q.1; omega
      refine CW.exit ?_
      refine EX.exitT ?_
      refine EX.exitB ?_
      refine EX.seq ?_
      refine CW.region ?_
      refine OL.q (Y.move rfl) rfl ?_
      first | refine OL.q (Y.add1 rfl rfl rfl (by omega)) rfl ?_ | refine OL.q (Y.addN rfl rfl (by omega)) rfl ?_ | refine OL.q (Y.add rfl rfl (by omega)) rfl ?_
      refine OL.q (Y.assign rfl) rfl ?_
      refine OL.nil ?_
      exact EX.next (i + 1, b, f) [0, 1] (show i + 1 ≤ ln ∧ BestIs n xs (l.take (i + 1)) b f from ⟨by omega, by rw [take_snoc hp]; exact hB.skip hno⟩) (show ln - (i + 1) < ln - i by omega) ⟨rfl, rfl, rfl, rfl, trivial⟩ rfl rfl
    · have ng6_2 := g6_2
      repeat (first | replace ng6_2 := yes ng6_2 | replace ng6_2 := no ng6_2 | replace ng6_2 := nyes ng6_2 | replace ng6_2 := nno ng6_2)
      refine OL.on g6_2 rfl rfl ?_
      refine OL.q (Y.move rfl) rfl ?_
      refine OL.on g6_2 rfl rfl ?_
      refine OL.q (Y.move rfl) rfl ?_
      refine OL.on g6_2 rfl rfl ?_
      refine OL.q (Y.nilCheck rfl) rfl ?_
      refine OL.on g6_2 rfl rfl ?_
      refine OL.q (Y.field L63_0 rfl) rfl ?_
      refine OL.on g6_2 rfl rfl ?_
      first | refine OL.q (Y.load T61 rfl (Ent.at 0 rfl (Up.cellIs _ _ _) (blk_cell rfl))) rfl ?_ | refine OL.q (Y.load T61 rfl (Ent.at 1 rfl (Up.cellIs _ _ _) (blk_cell rfl))) rfl ?_ | refine OL.q (Y.load T61 rfl (Ent.at 2 rfl (Up.cellIs _ _ _) (blk_cell rfl))) rfl ?_ | refine OL.q (Y.load T61 rfl (Ent.at 3 rfl (Up.cellIs _ _ _) (blk_cell rfl))) rfl ?_ | refine OL.q (Y.load T61 rfl (Ent.at 4 rfl (Up.cellIs _ _ _) (blk_cell rfl))) rfl ?_ | refine OL.q (Y.load T61 rfl (Ent.at 5 rfl (Up.cellIs _ _ _) (blk_cell rfl))) rfl ?_
      refine OL.on g6_2 rfl rfl ?_
      refine OL.q (Y.lenSl Try.underlying61 rfl) rfl ?_
      refine OL.on g6_2 rfl rfl ?_
      refine OL.q (Y.geq rfl rfl) rfl ?_
      refine OL.q (Y.pickF rfl g6_2 rfl) rfl ?_
      refine OL.nil ?_
      refine EX.seq ?_
      refine CW.cond rfl (fun h1 => ?_) (fun h1 => ?_)
      · repeat (first | replace h1 := yes h1 | replace h1 := no h1 | replace h1 := nyes h1 | replace h1 := nno h1)
        have hno : ¬ okV n v := fun q => by have := q.2; omega
        refine CW.exit ?_
        refine EX.exitT ?_
        refine EX.exitB ?_
        refine EX.seq ?_
        refine CW.region ?_
        refine OL.q (Y.move rfl) rfl ?_
        first | refine OL.q (Y.add1 rfl rfl rfl (by omega)) rfl ?_ | refine OL.q (Y.addN rfl rfl (by omega)) rfl ?_ | refine OL.q (Y.add rfl rfl (by omega)) rfl ?_
        refine OL.q (Y.assign rfl) rfl ?_
        refine OL.nil ?_
        exact EX.next (i + 1, b, f) [0, 1] (show i + 1 ≤ ln ∧ BestIs n xs (l.take (i + 1)) b f from ⟨by omega, by rw [take_snoc hp]; exact hB.skip hno⟩) (show ln - (i + 1) < ln - i by omega) ⟨rfl, rfl, rfl, rfl, trivial⟩ rfl rfl
      · repeat (first | replace h1 := yes h1 | replace h1 := no h1 | replace h1 := nyes h1 | replace h1 := nno h1)
        have hv : okV n v := ⟨by omega, by omega⟩
        obtain ⟨k, rfl⟩ := Int.eq_ofNat_of_zero_le hv.1
        have hk : k < n := by have := hv.2; omega
        obtain ⟨xv, hxv⟩ : ∃ p, xs[k]? = some p := ⟨_, List.getElem?_eq_getElem (by omega)⟩
        refine CW.skip ?_
        refine EX.seq ?_
        refine CW.seq ?_
        rcases Bool.eq_false_or_eq_true f with rfl | rfl
        · obtain ⟨_, hbv, _⟩ := hB.yes rfl
          obtain ⟨m, rfl⟩ := Int.eq_ofNat_of_zero_le hbv.1
          have hm : m < n := by have := hbv.2; omega
          obtain ⟨xb, hxb⟩ : ∃ p, xs[m]? = some p := ⟨_, List.getElem?_eq_getElem (by omega)⟩
          rw [show wOf (m : Int) true = m from rfl]
          refine CW.drawn [(true, 0), (true, 1), (true, 2), (true, 3), (true, 4), (true, 5), (true, 6), (true, 7), (true, 8), (true, 9), (true, 10), (true, 11), (true, 12), (true, 13), (true, 14), (true, 15), (true, 16), (false, 17), (true, 18), (true, 19), (true, 20), (true, 21), (true, 22), (true, 23), (true, 24), (true, 25), (true, 26), (true, 27), (true, 28), (true, 29), (true, 30), (true, 31), (true, 32), (true, 33), (false, 34), (true, 35), (true, 36), (true, 37), (true, 38), (true, 39), (true, 40), (true, 41)] [] [0, 1] mixed (by kernel_rfl) (by repeat (first | exact PanicOk.body | refine PanicOk.then ?_ | refine PanicOk.block ?_)) (by kernel_rfl) rfl rfl rfl rfl ?_
          refine OL.qt (Y.move rfl) rfl ?_
          refine OL.qt (Y.lss rfl rfl) rfl ?_
          refine OL.qt (Y.move rfl) rfl ?_
          refine OL.guard (s := 31) rfl (fun g7_2 => ?_) (fun g7_2 => ?_)
          · have ng7_2 := g7_2
            repeat (first | replace ng7_2 := yes ng7_2 | replace ng7_2 := no ng7_2 | replace ng7_2 := nyes ng7_2 | replace ng7_2 := nno ng7_2)
            exfalso
            omega
          · have ng7_2 := g7_2
            repeat (first | replace ng7_2 := yes ng7_2 | replace ng7_2 := no ng7_2 | replace ng7_2 := nyes ng7_2 | replace ng7_2 := nno ng7_2)
            refine OL.ont g7_2 rfl rfl ?_
            refine OL.qt (Y.move rfl) rfl ?_
            refine OL.ont g7_2 rfl rfl ?_
            refine OL.qt (Y.nilCheck rfl) rfl ?_
            refine OL.ont g7_2 rfl rfl ?_
            refine OL.qt (Y.field L63_0 rfl) rfl ?_
            refine OL.ont g7_2 rfl rfl ?_
            first | refine OL.qt (Y.load T61 rfl (Ent.at 0 rfl (Up.cellIs _ _ _) (blk_cell rfl))) rfl ?_ | refine OL.qt (Y.load T61 rfl (Ent.at 1 rfl (Up.cellIs _ _ _) (blk_cell rfl))) rfl ?_ | refine OL.qt (Y.load T61 rfl (Ent.at 2 rfl (Up.cellIs _ _ _) (blk_cell rfl))) rfl ?_ | refine OL.qt (Y.load T61 rfl (Ent.at 3 rfl (Up.cellIs _ _ _) (blk_cell rfl))) rfl ?_ | refine OL.qt (Y.load T61 rfl (Ent.at 4 rfl (Up.cellIs _ _ _) (blk_cell rfl))) rfl ?_ | refine OL.qt (Y.load T61 rfl (Ent.at 5 rfl (Up.cellIs _ _ _) (blk_cell rfl))) rfl ?_
            refine OL.ont g7_2 rfl rfl ?_
            refine OL.qt (Y.move rfl) rfl ?_
            refine OL.ont g7_2 rfl rfl ?_
            refine OL.qt (Y.index (k := m) Try.underlying61 C48 rfl rfl (Ent.at 1 rfl (Up.rd _ _ _ _) row_rd) rfl hm) rfl ?_
            refine OL.ont g7_2 rfl rfl ?_
            refine OL.qt (Y.load T48 rfl (cellsIs_at0 (rd_at (Ent.at 1 rfl (Up.rd _ _ _ _) row_rd) (mget flCells hxb)) rfl)) rfl ?_
            refine OL.ont g7_2 rfl rfl ?_
            refine OL.qt (Y.move rfl) rfl ?_
            refine OL.ont g7_2 rfl rfl ?_
            refine OL.qt (Y.nilCheck rfl) rfl ?_
            refine OL.ont g7_2 rfl rfl ?_
            refine OL.qt (Y.field L63_0 rfl) rfl ?_
            refine OL.ont g7_2 rfl rfl ?_
            first | refine OL.qt (Y.load T61 rfl (Ent.at 0 rfl (Up.cellIs _ _ _) (blk_cell rfl))) rfl ?_ | refine OL.qt (Y.load T61 rfl (Ent.at 1 rfl (Up.cellIs _ _ _) (blk_cell rfl))) rfl ?_ | refine OL.qt (Y.load T61 rfl (Ent.at 2 rfl (Up.cellIs _ _ _) (blk_cell rfl))) rfl ?_ | refine OL.qt (Y.load T61 rfl (Ent.at 3 rfl (Up.cellIs _ _ _) (blk_cell rfl))) rfl ?_ | refine OL.qt (Y.load T61 rfl (Ent.at 4 rfl (Up.cellIs _ _ _) (blk_cell rfl))) rfl ?_ | refine OL.qt (Y.load T61 rfl (Ent.at 5 rfl (Up.cellIs _ _ _) (blk_cell rfl))) rfl ?_
            refine OL.ont g7_2 rfl rfl ?_
            refine OL.qt (Y.move rfl) rfl ?_
            refine OL.ont g7_2 rfl rfl ?_
            refine OL.qt (Y.index (k := k) Try.underlying61 C48 rfl rfl (Ent.at 1 rfl (Up.rd _ _ _ _) row_rd) rfl hk) rfl ?_
            refine OL.ont g7_2 rfl rfl ?_
            refine OL.qt (Y.load T48 rfl (cellsIs_at0 (rd_at (Ent.at 1 rfl (Up.rd _ _ _ _) row_rd) (mget flCells hxv)) rfl)) rfl ?_
            refine OL.on g7_2 rfl rfl ?_
            refine OL.call [] (rless_plain_any xb xv (hpl _ (mem_of hxb)) (hpl _ (mem_of hxv))) Try.call52 rfl rfl rfl rfl (Ent.nothing _) rfl ?_
            rintro _ _ ⟨rfl, rfl⟩
            refine ⟨rfl, rfl, ?_⟩
            refine OL.qt (Y.pickF rfl g7_2 rfl) rfl ?_
            refine OL.qt (Y.move rfl) rfl ?_
            refine OL.guard (s := 48) rfl (fun g7_19 => ?_) (fun g7_19 => ?_)
            · have ng7_19 := g7_19
              repeat (first | replace ng7_19 := yes ng7_19 | replace ng7_19 := no ng7_19 | replace ng7_19 := nyes ng7_19 | replace ng7_19 := nno ng7_19)
              refine OL.tno g7_19 rfl rfl rfl ?_
              refine OL.tno g7_19 rfl rfl rfl ?_
              refine OL.tno g7_19 rfl rfl rfl ?_
              refine OL.tno g7_19 rfl rfl rfl ?_
              refine OL.tno g7_19 rfl rfl rfl ?_
              refine OL.tno g7_19 rfl rfl rfl ?_
              refine OL.tno g7_19 rfl rfl rfl ?_
              refine OL.tno g7_19 rfl rfl rfl ?_
              refine OL.tno g7_19 rfl rfl rfl ?_
              refine OL.tno g7_19 rfl rfl rfl ?_
              refine OL.tno g7_19 rfl rfl rfl ?_
              refine OL.tno g7_19 rfl rfl rfl ?_
              refine OL.tno g7_19 rfl rfl rfl ?_
              refine OL.tno g7_19 rfl rfl rfl ?_
              refine OL.no g7_19 rfl rfl rfl ?_
              refine OL.tno g7_19 rfl rfl rfl ?_
              refine OL.tno g7_19 rfl rfl rfl ?_
              refine OL.tdead rfl rfl rfl ?_
              refine OL.tdead rfl rfl rfl ?_
              refine OL.tdead rfl rfl rfl ?_
              refine OL.tno g7_19 rfl rfl rfl ?_
              refine OL.qt (Y.pickT rfl g7_19 rfl) rfl ?_
              refine OL.nil ?_
              refine EX.tail ?_
              refine OL.nil ?_
              refine EX.seq ?_
              refine CW.cond rfl (fun h2 => ?_) (fun h2 => ?_)
              rotate_left
              · repeat (first | replace h2 := yes h2 | replace h2 := no h2 | replace h2 := nyes h2 | replace h2 := nno h2)
                exfalso
                first | omega | contradiction | exact absurd rfl h2 | exact absurd h2 (by simp) | exact absurd h2 (by decide)
              repeat (first | replace h2 := yes h2 | replace h2 := no h2 | replace h2 := nyes h2 | replace h2 := nno h2)
              refine CW.region ?_
              refine OL.q (Y.move rfl) rfl ?_
              refine OL.q (Y.assign rfl) rfl ?_
              refine OL.nil ?_
              refine EX.norB ?_
              refine EX.seq ?_
              refine CW.region ?_
              refine OL.q (Y.move rfl) rfl ?_
              first | refine OL.q (Y.add1 rfl rfl rfl (by omega)) rfl ?_ | refine OL.q (Y.addN rfl rfl (by omega)) rfl ?_ | refine OL.q (Y.add rfl rfl (by omega)) rfl ?_
              refine OL.q (Y.assign rfl) rfl ?_
              refine OL.nil ?_
              first | exact EX.next (i + 1, k, true) [0, 1] (show i + 1 ≤ ln ∧ BestIs n xs (l.take (i + 1)) k true from ⟨by omega, by rw [take_snoc hp]; exact hB.first hv⟩) (show ln - (i + 1) < ln - i by omega) ⟨rfl, rfl, rfl, rfl, trivial⟩ rfl rfl | exact EX.next (i + 1, k, true) [0, 1] (show i + 1 ≤ ln ∧ BestIs n xs (l.take (i + 1)) k true from ⟨by omega, by rw [take_snoc hp]; exact hB.turn hv (.inl (by rw [kv_at hxb, kv_at hxv]; exact ng7_19))⟩) (show ln - (i + 1) < ln - i by omega) ⟨rfl, rfl, rfl, rfl, trivial⟩ rfl rfl
            · have ng7_19 := g7_19
              repeat (first | replace ng7_19 := yes ng7_19 | replace ng7_19 := no ng7_19 | replace ng7_19 := nyes ng7_19 | replace ng7_19 := nno ng7_19)
              refine OL.ont g7_19 rfl rfl ?_
              refine OL.qt (Y.move rfl) rfl ?_
              refine OL.ont g7_19 rfl rfl ?_
              refine OL.qt (Y.nilCheck rfl) rfl ?_
              refine OL.ont g7_19 rfl rfl ?_
              refine OL.qt (Y.field L63_0 rfl) rfl ?_
              refine OL.ont g7_19 rfl rfl ?_
              first | refine OL.qt (Y.load T61 rfl (Ent.at 0 rfl (Up.cellIs _ _ _) (blk_cell rfl))) rfl ?_ | refine OL.qt (Y.load T61 rfl (Ent.at 1 rfl (Up.cellIs _ _ _) (blk_cell rfl))) rfl ?_ | refine OL.qt (Y.load T61 rfl (Ent.at 2 rfl (Up.cellIs _ _ _) (blk_cell rfl))) rfl ?_ | refine OL.qt (Y.load T61 rfl (Ent.at 3 rfl (Up.cellIs _ _ _) (blk_cell rfl))) rfl ?_ | refine OL.qt (Y.load T61 rfl (Ent.at 4 rfl (Up.cellIs _ _ _) (blk_cell rfl))) rfl ?_ | refine OL.qt (Y.load T61 rfl (Ent.at 5 rfl (Up.cellIs _ _ _) (blk_cell rfl))) rfl ?_
              refine OL.ont g7_19 rfl rfl ?_
              refine OL.qt (Y.move rfl) rfl ?_
              refine OL.ont g7_19 rfl rfl ?_
              refine OL.qt (Y.index (k := k) Try.underlying61 C48 rfl rfl (Ent.at 1 rfl (Up.rd _ _ _ _) row_rd) rfl hk) rfl ?_
              refine OL.ont g7_19 rfl rfl ?_
              refine OL.qt (Y.load T48 rfl (cellsIs_at0 (rd_at (Ent.at 1 rfl (Up.rd _ _ _ _) row_rd) (mget flCells hxv)) rfl)) rfl ?_
              refine OL.ont g7_19 rfl rfl ?_
              refine OL.qt (Y.move rfl) rfl ?_
              refine OL.ont g7_19 rfl rfl ?_
              refine OL.qt (Y.nilCheck rfl) rfl ?_
              refine OL.ont g7_19 rfl rfl ?_
              refine OL.qt (Y.field L63_0 rfl) rfl ?_
              refine OL.ont g7_19 rfl rfl ?_
              first | refine OL.qt (Y.load T61 rfl (Ent.at 0 rfl (Up.cellIs _ _ _) (blk_cell rfl))) rfl ?_ | refine OL.qt (Y.load T61 rfl (Ent.at 1 rfl (Up.cellIs _ _ _) (blk_cell rfl))) rfl ?_ | refine OL.qt (Y.load T61 rfl (Ent.at 2 rfl (Up.cellIs _ _ _) (blk_cell rfl))) rfl ?_ | refine OL.qt (Y.load T61 rfl (Ent.at 3 rfl (Up.cellIs _ _ _) (blk_cell rfl))) rfl ?_ | refine OL.qt (Y.load T61 rfl (Ent.at 4 rfl (Up.cellIs _ _ _) (blk_cell rfl))) rfl ?_ | refine OL.qt (Y.load T61 rfl (Ent.at 5 rfl (Up.cellIs _ _ _) (blk_cell rfl))) rfl ?_
              refine OL.ont g7_19 rfl rfl ?_
              refine OL.qt (Y.move rfl) rfl ?_
              refine OL.ont g7_19 rfl rfl ?_
              refine OL.qt (Y.index (k := m) Try.underlying61 C48 rfl rfl (Ent.at 1 rfl (Up.rd _ _ _ _) row_rd) rfl hm) rfl ?_
              refine OL.ont g7_19 rfl rfl ?_
              refine OL.qt (Y.load T48 rfl (cellsIs_at0 (rd_at (Ent.at 1 rfl (Up.rd _ _ _ _) row_rd) (mget flCells hxb)) rfl)) rfl ?_
              refine OL.on g7_19 rfl rfl ?_
              refine OL.call [] (rless_plain_any xv xb (hpl _ (mem_of hxv)) (hpl _ (mem_of hxb))) Try.call52 rfl rfl rfl rfl (Ent.nothing _) rfl ?_
              rintro _ _ ⟨rfl, rfl⟩
              refine ⟨rfl, rfl, ?_⟩
              refine OL.ont g7_19 rfl rfl ?_
              refine OL.qt (Y.not rfl) rfl ?_
              refine OL.ont g7_19 rfl rfl ?_
              refine OL.qt (Y.move rfl) rfl ?_
              refine OL.guard (s := 65) rfl (fun g7_36 => ?_) (fun g7_36 => ?_)
              · have ng7_36 := g7_36
                repeat (first | replace ng7_36 := yes ng7_36 | replace ng7_36 := no ng7_36 | replace ng7_36 := nyes ng7_36 | replace ng7_36 := nno ng7_36)
                refine OL.ont g7_36 rfl rfl ?_
                refine OL.qt (Y.move rfl) rfl ?_
                refine OL.ont g7_36 rfl rfl ?_
                refine OL.qt (Y.move rfl) rfl ?_
                refine OL.ont g7_36 rfl rfl ?_
                refine OL.qt (Y.lss rfl rfl) rfl ?_
                refine OL.ont g7_19 rfl rfl ?_
                refine OL.qt (Y.pickT rfl g7_36 rfl) rfl ?_
                refine OL.qt (Y.pickF rfl g7_19 rfl) rfl ?_
                refine OL.nil ?_
                refine EX.tail ?_
                refine OL.nil ?_
                refine EX.seq ?_
                refine CW.cond rfl (fun h2 => ?_) (fun h2 => ?_)
                · repeat (first | replace h2 := yes h2 | replace h2 := no h2 | replace h2 := nyes h2 | replace h2 := nno h2)
                  refine CW.region ?_
                  refine OL.q (Y.move rfl) rfl ?_
                  refine OL.q (Y.assign rfl) rfl ?_
                  refine OL.nil ?_
                  refine EX.norB ?_
                  refine EX.seq ?_
                  refine CW.region ?_
                  refine OL.q (Y.move rfl) rfl ?_
                  first | refine OL.q (Y.add1 rfl rfl rfl (by omega)) rfl ?_ | refine OL.q (Y.addN rfl rfl (by omega)) rfl ?_ | refine OL.q (Y.add rfl rfl (by omega)) rfl ?_
                  refine OL.q (Y.assign rfl) rfl ?_
                  refine OL.nil ?_
                  exact EX.next (i + 1, k, true) [0, 1] (show i + 1 ≤ ln ∧ BestIs n xs (l.take (i + 1)) k true from ⟨by omega, by rw [take_snoc hp]; exact hB.turn hv (.inr (by rw [kv_at hxb, kv_at hxv]; omega))⟩) (show ln - (i + 1) < ln - i by omega) ⟨rfl, rfl, rfl, rfl, trivial⟩ rfl rfl
                · repeat (first | replace h2 := yes h2 | replace h2 := no h2 | replace h2 := nyes h2 | replace h2 := nno h2)
                  refine CW.skip ?_
                  refine EX.norB ?_
                  refine EX.seq ?_
                  refine CW.region ?_
                  refine OL.q (Y.move rfl) rfl ?_
                  first | refine OL.q (Y.add1 rfl rfl rfl (by omega)) rfl ?_ | refine OL.q (Y.addN rfl rfl (by omega)) rfl ?_ | refine OL.q (Y.add rfl rfl (by omega)) rfl ?_
                  refine OL.q (Y.assign rfl) rfl ?_
                  refine OL.nil ?_
                  exact EX.next (i + 1, m, true) [0, 1] (show i + 1 ≤ ln ∧ BestIs n xs (l.take (i + 1)) m true from ⟨by omega, by rw [take_snoc hp]; exact hB.stay (by rw [kv_at hxb, kv_at hxv]; omega)⟩) (show ln - (i + 1) < ln - i by omega) ⟨rfl, rfl, rfl, rfl, trivial⟩ rfl rfl
              · have ng7_36 := g7_36
                repeat (first | replace ng7_36 := yes ng7_36 | replace ng7_36 := no ng7_36 | replace ng7_36 := nyes ng7_36 | replace ng7_36 := nno ng7_36)
                refine OL.tno g7_36 rfl rfl rfl ?_
                refine OL.tno g7_36 rfl rfl rfl ?_
                refine OL.tno g7_36 rfl rfl rfl ?_
                refine OL.ont g7_19 rfl rfl ?_
                refine OL.qt (Y.pickF rfl g7_36 rfl) rfl ?_
                refine OL.qt (Y.pickF rfl g7_19 rfl) rfl ?_
                refine OL.nil ?_
                refine EX.tail ?_
                refine OL.nil ?_
                refine EX.seq ?_
                refine CW.cond rfl (fun h2 => ?_) (fun h2 => ?_)
                · repeat (first | replace h2 := yes h2 | replace h2 := no h2 | replace h2 := nyes h2 | replace h2 := nno h2)
                  exfalso
                  first | omega | contradiction | exact absurd rfl h2 | exact absurd h2 (by simp) | exact absurd h2 (by decide)
                repeat (first | replace h2 := yes h2 | replace h2 := no h2 | replace h2 := nyes h2 | replace h2 := nno h2)
                refine CW.skip ?_
                refine EX.norB ?_
                refine EX.seq ?_
                refine CW.region ?_
                refine OL.q (Y.move rfl) rfl ?_
                first | refine OL.q (Y.add1 rfl rfl rfl (by omega)) rfl ?_ | refine OL.q (Y.addN rfl rfl (by omega)) rfl ?_ | refine OL.q (Y.add rfl rfl (by omega)) rfl ?_
                refine OL.q (Y.assign rfl) rfl ?_
                refine OL.nil ?_
                exact EX.next (i + 1, m, true) [0, 1] (show i + 1 ≤ ln ∧ BestIs n xs (l.take (i + 1)) m true from ⟨by omega, by rw [take_snoc hp]; exact hB.stay (by rw [kv_at hxb, kv_at hxv]; omega)⟩) (show ln - (i + 1) < ln - i by omega) ⟨rfl, rfl, rfl, rfl, trivial⟩ rfl rfl
        · rw [show wOf b false = -1 from rfl]
          refine CW.drawn [(true, 0), (true, 1), (true, 2), (true, 3), (true, 4), (true, 5), (true, 6), (true, 7), (true, 8), (true, 9), (true, 10), (true, 11), (true, 12), (true, 13), (true, 14), (true, 15), (true, 16), (false, 17), (true, 18), (true, 19), (true, 20), (true, 21), (true, 22), (true, 23), (true, 24), (true, 25), (true, 26), (true, 27), (true, 28), (true, 29), (true, 30), (true, 31), (true, 32), (true, 33), (false, 34), (true, 35), (true, 36), (true, 37), (true, 38), (true, 39), (true, 40), (true, 41)] [] [0, 1] mixed (by kernel_rfl) (by repeat (first | exact PanicOk.body | refine PanicOk.then ?_ | refine PanicOk.block ?_)) (by kernel_rfl) rfl rfl rfl rfl ?_
          refine OL.qt (Y.move rfl) rfl ?_
          refine OL.qt (Y.lss rfl rfl) rfl ?_
          refine OL.qt (Y.move rfl) rfl ?_
          refine OL.guard (s := 31) rfl (fun g7_2 => ?_) (fun g7_2 => ?_)
          · have ng7_2 := g7_2
            repeat (first | replace ng7_2 := yes ng7_2 | replace ng7_2 := no ng7_2 | replace ng7_2 := nyes ng7_2 | replace ng7_2 := nno ng7_2)
            refine OL.tno g7_2 rfl rfl rfl ?_
            refine OL.tno g7_2 rfl rfl rfl ?_
            refine OL.tno g7_2 rfl rfl rfl ?_
            refine OL.tno g7_2 rfl rfl rfl ?_
            refine OL.tno g7_2 rfl rfl rfl ?_
            refine OL.tno g7_2 rfl rfl rfl ?_
            refine OL.tno g7_2 rfl rfl rfl ?_
            refine OL.tno g7_2 rfl rfl rfl ?_
            refine OL.tno g7_2 rfl rfl rfl ?_
            refine OL.tno g7_2 rfl rfl rfl ?_
            refine OL.tno g7_2 rfl rfl rfl ?_
            refine OL.tno g7_2 rfl rfl rfl ?_
            refine OL.tno g7_2 rfl rfl rfl ?_
            refine OL.tno g7_2 rfl rfl rfl ?_
            refine OL.no g7_2 rfl rfl rfl ?_
            refine OL.qt (Y.pickT rfl g7_2 rfl) rfl ?_
            refine OL.qt (Y.move rfl) rfl ?_
            refine OL.guard (s := 48) rfl (fun g7_19 => ?_) (fun g7_19 => ?_)
            · have ng7_19 := g7_19
              repeat (first | replace ng7_19 := yes ng7_19 | replace ng7_19 := no ng7_19 | replace ng7_19 := nyes ng7_19 | replace ng7_19 := nno ng7_19)
              refine OL.tno g7_19 rfl rfl rfl ?_
              refine OL.tno g7_19 rfl rfl rfl ?_
              refine OL.tno g7_19 rfl rfl rfl ?_
              refine OL.tno g7_19 rfl rfl rfl ?_
              refine OL.tno g7_19 rfl rfl rfl ?_
              refine OL.tno g7_19 rfl rfl rfl ?_
              refine OL.tno g7_19 rfl rfl rfl ?_
              refine OL.tno g7_19 rfl rfl rfl ?_
              refine OL.tno g7_19 rfl rfl rfl ?_
              refine OL.tno g7_19 rfl rfl rfl ?_
              refine OL.tno g7_19 rfl rfl rfl ?_
              refine OL.tno g7_19 rfl rfl rfl ?_
              refine OL.tno g7_19 rfl rfl rfl ?_
              refine OL.tno g7_19 rfl rfl rfl ?_
              refine OL.no g7_19 rfl rfl rfl ?_
              refine OL.tno g7_19 rfl rfl rfl ?_
              refine OL.tno g7_19 rfl rfl rfl ?_
              refine OL.tdead rfl rfl rfl ?_
              refine OL.tdead rfl rfl rfl ?_
              refine OL.tdead rfl rfl rfl ?_
              refine OL.tno g7_19 rfl rfl rfl ?_
              refine OL.qt (Y.pickT rfl g7_19 rfl) rfl ?_
              refine OL.nil ?_
              refine EX.tail ?_
              refine OL.nil ?_
              refine EX.seq ?_
              refine CW.cond rfl (fun h2 => ?_) (fun h2 => ?_)
              rotate_left
              · repeat (first | replace h2 := yes h2 | replace h2 := no h2 | replace h2 := nyes h2 | replace h2 := nno h2)
                exfalso
                first | omega | contradiction | exact absurd rfl h2 | exact absurd h2 (by simp) | exact absurd h2 (by decide)
              repeat (first | replace h2 := yes h2 | replace h2 := no h2 | replace h2 := nyes h2 | replace h2 := nno h2)
              refine CW.region ?_
              refine OL.q (Y.move rfl) rfl ?_
              refine OL.q (Y.assign rfl) rfl ?_
              refine OL.nil ?_
              refine EX.norB ?_
              refine EX.seq ?_
              refine CW.region ?_
              refine OL.q (Y.move rfl) rfl ?_
              first | refine OL.q (Y.add1 rfl rfl rfl (by omega)) rfl ?_ | refine OL.q (Y.addN rfl rfl (by omega)) rfl ?_ | refine OL.q (Y.add rfl rfl (by omega)) rfl ?_
              refine OL.q (Y.assign rfl) rfl ?_
              refine OL.nil ?_
              first | exact EX.next (i + 1, k, true) [0, 1] (show i + 1 ≤ ln ∧ BestIs n xs (l.take (i + 1)) k true from ⟨by omega, by rw [take_snoc hp]; exact hB.first hv⟩) (show ln - (i + 1) < ln - i by omega) ⟨rfl, rfl, rfl, rfl, trivial⟩ rfl rfl | exact EX.next (i + 1, k, true) [0, 1] (show i + 1 ≤ ln ∧ BestIs n xs (l.take (i + 1)) k true from ⟨by omega, by rw [take_snoc hp]; exact hB.turn hv (.inl (by rw [kv_at hxb, kv_at hxv]; exact ng7_19))⟩) (show ln - (i + 1) < ln - i by omega) ⟨rfl, rfl, rfl, rfl, trivial⟩ rfl rfl
            · have ng7_19 := g7_19
              repeat (first | replace ng7_19 := yes ng7_19 | replace ng7_19 := no ng7_19 | replace ng7_19 := nyes ng7_19 | replace ng7_19 := nno ng7_19)
              exfalso
              first | omega | contradiction | exact absurd rfl ng7_19 | exact absurd ng7_19 (by simp) | exact absurd ng7_19 (by decide)
          · have ng7_2 := g7_2
            repeat (first | replace ng7_2 := yes ng7_2 | replace ng7_2 := no ng7_2 | replace ng7_2 := nyes ng7_2 | replace ng7_2 := nno ng7_2)
            exfalso
            first | omega | contradiction | exact absurd rfl ng7_2 | exact absurd ng7_2 (by simp) | exact absurd ng7_2 (by decide)
  · repeat (first | replace h0 := yes h0 | replace h0 := no h0 | replace h0 := nyes h0 | replace h0 := nno h0)
    refine CW.exit ?_
    refine EX.exitT ?_
    refine EX.exitT ?_
    refine EX.exitB ?_
    refine EX.seq ?_
    refine CW.seq ?_
    refine CW.region ?_
    refine OL.q (Y.move rfl) rfl ?_
    refine OL.q (Y.assign rfl) rfl ?_
    refine OL.nil ?_
    refine EX.seq ?_
    refine CW.ret ?_
    have hil : i = ln := by omega
    subst hil
    rw [List.take_of_length_le (by omega)] at hB
    exact EX.fin1 [0, 1] rfl rfl rfl ⟨⟨_, _, rfl, hB⟩, rfl⟩
end Go.Proofs.Ythnejajlkijobaa
