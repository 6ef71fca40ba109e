/- The functions of score, over one translation: each yields what its Lean function says. -/
import Derived.Test.YthnejajlkijobaaRows
import Derived.Test.YthnejajlkijobaaFloat
import Derived.KernelRfl
namespace Go.Proofs.Ythnejajlkijobaa
open Go.Sx
theorem mixed : Try.prog.follows .mixedOrders = true := by kernel_rfl

theorem T3 : Ty1 Try.prog 3 (.int .i64 0) := ⟨Try.isAgg3, Try.sizeOf3, Try.zeroValue3⟩
theorem T48 : Ty1 Try.prog 48 (.float .f64 0) := ⟨Try.isAgg48, Try.sizeOf48, Try.zeroValue48⟩
theorem T61 : Ty1 Try.prog 61 (.slice none 0 0) := ⟨Try.isAgg61, Try.sizeOf61, Try.zeroValue61⟩
theorem C3 : TyC Try.prog 3 1 [.int .i64 0] := T3.c rfl
theorem C48 : TyC Try.prog 48 1 [.float .f64 0] := T48.c rfl
theorem L79_0 : Fld Try.prog 79 0 0 := ⟨⟨_, Try.underlying79, _, rfl, rfl, 1, by decide, Try.sizeOf61⟩⟩
theorem L79_1 : Fld Try.prog 79 1 1 := ⟨⟨_, Try.underlying79, _, rfl, rfl, 1, by decide, Try.sizeOf48⟩⟩
theorem B79 : StT Try.prog 79 [(0, 1), (1, 1), (2, 1)] [.slice none 0 0, .float .f64 0, .float .f64 0] := StT.of (it := Try.t79) (by kernel_rfl) Try.underlying79 rfl rfl (by kernel_rfl)
theorem E48 : Elt Try.prog 48 1 8 [.float .f64 0] := ⟨⟨Try.t48, by kernel_rfl, rfl, rfl, _, rfl, rfl⟩, rfl, by decide⟩


theorem XG40 : (Try.f40.name == "runtime.NumGoroutine") = false ∧ Try.f40.body.isNone = true ∧ (Extern.findNext Try.f40).isNone = true := ⟨by kernel_rfl, by kernel_rfl, by kernel_rfl⟩
theorem XE40 : Extern.find Try.f40 = some Extern.MathFloatBits.float64frombits := by kernel_rfl
theorem XG51 : (Try.f51.name == "runtime.NumGoroutine") = false ∧ Try.f51.body.isNone = true ∧ (Extern.findNext Try.f51).isNone = true := ⟨by kernel_rfl, by kernel_rfl, by kernel_rfl⟩
theorem XE51 : Extern.find Try.f51 = some Extern.MathFloatBits.float64bits := by kernel_rfl
abbrev nan1 : Nat := 9221120237041090561
abbrev minf : Nat := 18442240474082181120
abbrev one1 : Nat := 4607182418800017408
/-- A score as it is kept. -/
def keptF (x : Nat) : Nat := if isNan x then minf else if ford x 0 = some .eq then 0 else x
def below0 (x : Nat) : Bool := decide (IntKind.i64.wrap (x : Int) < 0)
def lessF (x y : Nat) : Bool := if isNan x || isNan y then isNan x && !isNan y else if ford x 0 = some .eq ∧ ford y 0 = some .eq then below0 x && !below0 y else decide (ford x y = some .lt)
def decayF (x : Nat) : Nat := if ford x 0 = some .gt ∧ ford x one1 = some .lt then x else 4606732058837280358
def flCells (x : Nat) : List Value := [fl x]
def intCells (n : Int) : List Value := [.int .i64 n]
def u64Cells (n : Int) : List Value := [.int .u64 n]
/-- A table of scores. -/
def tabL (t : Nat) (a : Option Addr) (n c : Nat) (xs : List Nat) (st dc : Nat) : List HP :=
  [blk t [.slice a n c, fl st, fl dc] 79, row a n c 48 1 (xs.map flCells)]
def okV (n : Nat) (v : Int) : Prop := 0 ≤ v ∧ v < n
instance (n : Nat) (v : Int) : Decidable (okV n v) := by unfold okV; infer_instance


theorem isNaN_any (x : Nat) :
    FS Try.prog 41 [fl x] (nothing) [] (fun v H => v = .bool (isNan x) ∧ H = []) := by
  refine FS.intro (N := 6) Try.func41 rfl rfl rfl (fun F w0 hF => ?_)
  refine CW.seq ?_
  refine CW.region ?_
  refine OL.q (Y.assign rfl) rfl ?_
  refine OL.nil ?_
  refine EX.seq ?_
  refine CW.seq ?_
  refine CW.region ?_
  refine OL.q (Y.move rfl) rfl ?_
  refine OL.q (Y.move rfl) rfl ?_
  refine OL.q (Y.neqF rfl rfl) rfl ?_
  refine OL.q (Y.assign rfl) rfl ?_
  refine OL.nil ?_
  refine EX.seq ?_
  refine CW.ret ?_
  exact EX.fin1 [] rfl rfl rfl ⟨rfl, rfl⟩

theorem signbit_any (x : Nat) :
    FS Try.prog 42 [fl x] (nothing) [] (fun v H => v = .bool (below0 x) ∧ H = []) := by
  refine FS.intro (N := 7) Try.func42 rfl rfl rfl (fun F w0 hF => ?_)
  refine CW.seq ?_
  refine CW.region ?_
  refine OL.q (Y.assign rfl) rfl ?_
  refine OL.nil ?_
  refine EX.seq ?_
  refine CW.seq ?_
  refine CW.region ?_
  refine OL.q (Y.move rfl) rfl ?_
  refine OL.q (Y.ext Try.func51 XG51 XE51 rfl rfl (fun _ => rfl)) rfl ?_
  refine OL.q (Y.conv Try.underlying49 Try.underlying2 rfl) rfl ?_
  refine OL.q (Y.lss rfl rfl) rfl ?_
  refine OL.q (Y.assign rfl) rfl ?_
  refine OL.nil ?_
  refine EX.seq ?_
  refine CW.ret ?_
  exact EX.fin1 [] rfl rfl rfl ⟨rfl, rfl⟩

theorem nan_any  :
    FS Try.prog 43 [] (nothing) [] (fun v H => v = fl nan1 ∧ H = []) := by
  refine FS.intro (N := 2) Try.func43 rfl rfl rfl (fun F w0 hF => ?_)
  refine CW.seq ?_
  refine CW.region ?_
  refine OL.q (Y.assign rfl) rfl ?_
  refine OL.nil ?_
  refine EX.seq ?_
  refine CW.seq ?_
  refine CW.region ?_
  refine OL.q (Y.ext Try.func40 XG40 XE40 rfl rfl (fun _ => rfl)) rfl ?_
  refine OL.q (Y.assign rfl) rfl ?_
  refine OL.nil ?_
  refine EX.seq ?_
  refine CW.ret ?_
  exact EX.fin1 [] rfl rfl rfl ⟨rfl, rfl⟩

theorem inf_any (s : Int) :
    FS Try.prog 53 [.int .i64 s] (nothing) [] (fun v H => v = fl (if s ≥ 0 then 9218868437227405312 else minf) ∧ H = []) := by
  refine FS.intro (N := 8) Try.func53 rfl rfl rfl (fun F w0 hF => ?_)
  refine CW.seq ?_
  refine CW.region ?_
  refine OL.q (Y.assign rfl) rfl ?_
  refine OL.nil ?_
  refine EX.seq ?_
  refine CW.seq ?_
  refine CW.region ?_
  refine OL.q (Y.assign rfl) rfl ?_
  refine OL.nil ?_
  refine EX.seq ?_
  refine CW.seq ?_
  refine CW.seq ?_
  refine CW.region ?_
  refine OL.q (Y.move rfl) rfl ?_
  refine OL.q (Y.geq rfl rfl) rfl ?_
  refine OL.nil ?_
  refine EX.seq ?_
  refine CW.cond rfl (fun h0 => ?_) (fun h0 => ?_)
  · repeat (first | replace h0 := yes h0 | replace h0 := no h0 | replace h0 := nyes h0 | replace h0 := nno h0)
    have hs : s ≥ 0 := h0
    refine CW.region ?_
    refine OL.q (Y.assign rfl) rfl ?_
    refine OL.nil ?_
    refine EX.seq ?_
    refine CW.seq ?_
    refine CW.region ?_
    refine OL.q (Y.move rfl) rfl ?_
    refine OL.q (Y.ext Try.func40 XG40 XE40 rfl rfl (fun _ => rfl)) rfl ?_
    refine OL.q (Y.assign rfl) rfl ?_
    refine OL.nil ?_
    refine EX.seq ?_
    refine CW.ret ?_
    exact EX.fin1 [] rfl rfl rfl ⟨by simp [hs], rfl⟩
  · repeat (first | replace h0 := yes h0 | replace h0 := no h0 | replace h0 := nyes h0 | replace h0 := nno h0)
    have hs : ¬ s ≥ 0 := h0
    refine CW.region ?_
    refine OL.q (Y.assign rfl) rfl ?_
    refine OL.nil ?_
    refine EX.seq ?_
    refine CW.seq ?_
    refine CW.region ?_
    refine OL.q (Y.move rfl) rfl ?_
    refine OL.q (Y.ext Try.func40 XG40 XE40 rfl rfl (fun _ => rfl)) rfl ?_
    refine OL.q (Y.assign rfl) rfl ?_
    refine OL.nil ?_
    refine EX.seq ?_
    refine CW.ret ?_
    exact EX.fin1 [] rfl rfl rfl ⟨by simp [hs], rfl⟩

theorem of_any (n : Int) :
    FS Try.prog 22 [.int .u64 n] (nothing) [] (fun v H => v = fl n.toNat ∧ H = []) := by
  refine FS.intro (N := 5) Try.func22 rfl rfl rfl (fun F w0 hF => ?_)
  refine CW.seq ?_
  refine CW.region ?_
  refine OL.q (Y.assign rfl) rfl ?_
  refine OL.nil ?_
  refine EX.seq ?_
  refine CW.seq ?_
  refine CW.region ?_
  refine OL.q (Y.move rfl) rfl ?_
  refine OL.q (Y.ext Try.func40 XG40 XE40 rfl rfl (fun _ => rfl)) rfl ?_
  refine OL.q (Y.assign rfl) rfl ?_
  refine OL.nil ?_
  refine EX.seq ?_
  refine CW.ret ?_
  exact EX.fin1 [] rfl rfl rfl ⟨rfl, rfl⟩

attribute [local irreducible] isNan below0

theorem kept_any (x : Nat) :
    FS Try.prog 39 [fl x] (nothing) [] (fun v H => v = fl (keptF x) ∧ H = []) := by
  refine FS.intro (N := 9) Try.func39 rfl rfl rfl (fun F w0 hF => ?_)
  refine CW.seq ?_
  refine CW.region ?_
  refine OL.q (Y.assign rfl) rfl ?_
  refine OL.nil ?_
  refine EX.seq ?_
  refine CW.seq ?_
  refine CW.seq ?_
  refine CW.region ?_
  refine OL.q (Y.move rfl) rfl ?_
  refine OL.call [] (isNaN_any _) Try.call41 rfl rfl rfl rfl (Ent.nothing _) rfl ?_
  rintro _ _ ⟨rfl, rfl⟩
  refine ⟨rfl, rfl, ?_⟩
  refine OL.nil ?_
  refine EX.seq ?_
  refine CW.cond rfl (fun h0 => ?_) (fun h0 => ?_)
  · repeat (first | replace h0 := yes h0 | replace h0 := no h0 | replace h0 := nyes h0 | replace h0 := nno h0)
    refine CW.seq ?_
    refine CW.region ?_
    refine OL.call [] (inf_any _) Try.call53 rfl rfl rfl rfl (Ent.nothing _) rfl ?_
    rintro _ _ ⟨rfl, rfl⟩
    refine ⟨rfl, rfl, ?_⟩
    refine OL.q (Y.assign rfl) rfl ?_
    refine OL.nil ?_
    refine EX.seq ?_
    refine CW.ret ?_
    refine EX.retT ?_
    exact EX.fin1 [] rfl rfl rfl ⟨by simp [keptF, *], rfl⟩
  · repeat (first | replace h0 := yes h0 | replace h0 := no h0 | replace h0 := nyes h0 | replace h0 := nno h0)
    refine CW.skip ?_
    refine EX.seq ?_
    refine CW.seq ?_
    refine CW.seq ?_
    refine CW.region ?_
    refine OL.q (Y.move rfl) rfl ?_
    refine OL.q (Y.eqlF rfl rfl) rfl ?_
    refine OL.nil ?_
    refine EX.seq ?_
    refine CW.cond rfl (fun h1 => ?_) (fun h1 => ?_)
    · repeat (first | replace h1 := yes h1 | replace h1 := no h1 | replace h1 := nyes h1 | replace h1 := nno h1)
      refine CW.seq ?_
      refine CW.region ?_
      refine OL.q (Y.assign rfl) rfl ?_
      refine OL.nil ?_
      refine EX.seq ?_
      refine CW.ret ?_
      refine EX.retT ?_
      exact EX.fin1 [] rfl rfl rfl ⟨by simp [keptF, *], rfl⟩
    · repeat (first | replace h1 := yes h1 | replace h1 := no h1 | replace h1 := nyes h1 | replace h1 := nno h1)
      refine CW.skip ?_
      refine EX.seq ?_
      refine CW.seq ?_
      refine CW.region ?_
      refine OL.q (Y.move rfl) rfl ?_
      refine OL.q (Y.assign rfl) rfl ?_
      refine OL.nil ?_
      refine EX.seq ?_
      refine CW.ret ?_
      exact EX.fin1 [] rfl rfl rfl ⟨by simp [keptF, *], rfl⟩

theorem less_any (x y : Nat) :
    FS Try.prog 24 [fl x, fl y] (nothing) [] (fun v H => v = .bool (lessF x y) ∧ H = []) := by
  refine FS.intro (N := 34) Try.func24 rfl rfl rfl (fun F w0 hF => ?_)
  refine CW.seq ?_
  refine CW.region ?_
  refine OL.q (Y.assign rfl) rfl ?_
  refine OL.nil ?_
  refine EX.seq ?_
  refine CW.seq ?_
  refine CW.seq ?_
  refine CW.region ?_
  refine OL.q (Y.move rfl) rfl ?_
  refine OL.call [] (isNaN_any _) Try.call41 rfl rfl rfl rfl (Ent.nothing _) rfl ?_
  rintro _ _ ⟨rfl, rfl⟩
  refine ⟨rfl, rfl, ?_⟩
  refine OL.q (Y.move rfl) rfl ?_
  refine OL.guard (s := 7) rfl (fun g1_2 => ?_) (fun g1_2 => ?_)
  · have ng1_2 := g1_2
    repeat (first | replace ng1_2 := yes ng1_2 | replace ng1_2 := no ng1_2 | replace ng1_2 := nyes ng1_2 | replace ng1_2 := nno ng1_2)
    refine OL.no g1_2 rfl rfl rfl ?_
    refine OL.no g1_2 rfl rfl rfl ?_
    refine OL.q (Y.pickT rfl g1_2 rfl) rfl ?_
    refine OL.nil ?_
    refine EX.seq ?_
    refine CW.cond rfl (fun h0 => ?_) (fun h0 => ?_)
    · repeat (first | replace h0 := yes h0 | replace h0 := no h0 | replace h0 := nyes h0 | replace h0 := nno h0)
      refine CW.seq ?_
      refine CW.region ?_
      refine OL.q (Y.move rfl) rfl ?_
      refine OL.call [] (isNaN_any _) Try.call41 rfl rfl rfl rfl (Ent.nothing _) rfl ?_
      rintro _ _ ⟨rfl, rfl⟩
      refine ⟨rfl, rfl, ?_⟩
      refine OL.q (Y.move rfl) rfl ?_
      refine OL.guard (s := 13) rfl (fun g2_2 => ?_) (fun g2_2 => ?_)
      · have ng2_2 := g2_2
        repeat (first | replace ng2_2 := yes ng2_2 | replace ng2_2 := no ng2_2 | replace ng2_2 := nyes ng2_2 | replace ng2_2 := nno ng2_2)
        refine OL.on g2_2 rfl rfl ?_
        refine OL.q (Y.move rfl) rfl ?_
        refine OL.on g2_2 rfl rfl ?_
        refine OL.call [] (isNaN_any _) Try.call41 rfl rfl rfl rfl (Ent.nothing _) rfl ?_
        rintro _ _ ⟨rfl, rfl⟩
        refine ⟨rfl, rfl, ?_⟩
        refine OL.on g2_2 rfl rfl ?_
        refine OL.q (Y.not rfl) rfl ?_
        refine OL.q (Y.pickT rfl g2_2 rfl) rfl ?_
        refine OL.q (Y.assign rfl) rfl ?_
        refine OL.nil ?_
        refine EX.seq ?_
        refine CW.ret ?_
        refine EX.retT ?_
        exact EX.fin1 [] rfl rfl rfl ⟨congrArg Value.bool (by
          clear hF
          unfold lessF
          first | contradiction | (simp [*]; done) | (simp_all; done)), rfl⟩
      · have ng2_2 := g2_2
        repeat (first | replace ng2_2 := yes ng2_2 | replace ng2_2 := no ng2_2 | replace ng2_2 := nyes ng2_2 | replace ng2_2 := nno ng2_2)
        refine OL.no g2_2 rfl rfl rfl ?_
        refine OL.no g2_2 rfl rfl rfl ?_
        refine OL.no g2_2 rfl rfl rfl ?_
        refine OL.q (Y.pickF rfl g2_2 rfl) rfl ?_
        refine OL.q (Y.assign rfl) rfl ?_
        refine OL.nil ?_
        refine EX.seq ?_
        refine CW.ret ?_
        refine EX.retT ?_
        exact EX.fin1 [] rfl rfl rfl ⟨congrArg Value.bool (by
          clear hF
          unfold lessF
          first | contradiction | (simp [*]; done) | (simp_all; done)), rfl⟩
    · repeat (first | replace h0 := yes h0 | replace h0 := no h0 | replace h0 := nyes h0 | replace h0 := nno h0)
      refine CW.skip ?_
      refine EX.seq ?_
      refine CW.seq ?_
      refine CW.seq ?_
      refine CW.region ?_
      refine OL.q (Y.move rfl) rfl ?_
      refine OL.q (Y.eqlF rfl rfl) rfl ?_
      refine OL.q (Y.move rfl) rfl ?_
      refine OL.guard (s := 20) rfl (fun g3_2 => ?_) (fun g3_2 => ?_)
      · have ng3_2 := g3_2
        repeat (first | replace ng3_2 := yes ng3_2 | replace ng3_2 := no ng3_2 | replace ng3_2 := nyes ng3_2 | replace ng3_2 := nno ng3_2)
        refine OL.on g3_2 rfl rfl ?_
        refine OL.q (Y.move rfl) rfl ?_
        refine OL.on g3_2 rfl rfl ?_
        refine OL.q (Y.eqlF rfl rfl) rfl ?_
        refine OL.q (Y.pickT rfl g3_2 rfl) rfl ?_
        refine OL.nil ?_
        refine EX.seq ?_
        refine CW.cond rfl (fun h1 => ?_) (fun h1 => ?_)
        · repeat (first | replace h1 := yes h1 | replace h1 := no h1 | replace h1 := nyes h1 | replace h1 := nno h1)
          refine CW.seq ?_
          refine CW.region ?_
          refine OL.q (Y.move rfl) rfl ?_
          refine OL.call [] (signbit_any _) Try.call42 rfl rfl rfl rfl (Ent.nothing _) rfl ?_
          rintro _ _ ⟨rfl, rfl⟩
          refine ⟨rfl, rfl, ?_⟩
          refine OL.q (Y.move rfl) rfl ?_
          refine OL.guard (s := 26) rfl (fun g4_2 => ?_) (fun g4_2 => ?_)
          · have ng4_2 := g4_2
            repeat (first | replace ng4_2 := yes ng4_2 | replace ng4_2 := no ng4_2 | replace ng4_2 := nyes ng4_2 | replace ng4_2 := nno ng4_2)
            refine OL.on g4_2 rfl rfl ?_
            refine OL.q (Y.move rfl) rfl ?_
            refine OL.on g4_2 rfl rfl ?_
            refine OL.call [] (signbit_any _) Try.call42 rfl rfl rfl rfl (Ent.nothing _) rfl ?_
            rintro _ _ ⟨rfl, rfl⟩
            refine ⟨rfl, rfl, ?_⟩
            refine OL.on g4_2 rfl rfl ?_
            refine OL.q (Y.not rfl) rfl ?_
            refine OL.q (Y.pickT rfl g4_2 rfl) rfl ?_
            refine OL.q (Y.assign rfl) rfl ?_
            refine OL.nil ?_
            refine EX.seq ?_
            refine CW.ret ?_
            refine EX.retT ?_
            exact EX.fin1 [] rfl rfl rfl ⟨congrArg Value.bool (by
              clear hF
              unfold lessF
              first | contradiction | (simp [*]; done) | (simp_all; done)), rfl⟩
          · have ng4_2 := g4_2
            repeat (first | replace ng4_2 := yes ng4_2 | replace ng4_2 := no ng4_2 | replace ng4_2 := nyes ng4_2 | replace ng4_2 := nno ng4_2)
            refine OL.no g4_2 rfl rfl rfl ?_
            refine OL.no g4_2 rfl rfl rfl ?_
            refine OL.no g4_2 rfl rfl rfl ?_
            refine OL.q (Y.pickF rfl g4_2 rfl) rfl ?_
            refine OL.q (Y.assign rfl) rfl ?_
            refine OL.nil ?_
            refine EX.seq ?_
            refine CW.ret ?_
            refine EX.retT ?_
            exact EX.fin1 [] rfl rfl rfl ⟨congrArg Value.bool (by
              clear hF
              unfold lessF
              first | contradiction | (simp [*]; done) | (simp_all; done)), rfl⟩
        · repeat (first | replace h1 := yes h1 | replace h1 := no h1 | replace h1 := nyes h1 | replace h1 := nno h1)
          refine CW.skip ?_
          refine EX.seq ?_
          refine CW.seq ?_
          refine CW.region ?_
          refine OL.q (Y.move rfl) rfl ?_
          refine OL.q (Y.move rfl) rfl ?_
          refine OL.q (Y.lssF rfl rfl) rfl ?_
          refine OL.q (Y.assign rfl) rfl ?_
          refine OL.nil ?_
          refine EX.seq ?_
          refine CW.ret ?_
          exact EX.fin1 [] rfl rfl rfl ⟨congrArg Value.bool (by
            clear hF
            unfold lessF
            first | contradiction | (simp [*]; done) | (simp_all; done)), rfl⟩
      · have ng3_2 := g3_2
        repeat (first | replace ng3_2 := yes ng3_2 | replace ng3_2 := no ng3_2 | replace ng3_2 := nyes ng3_2 | replace ng3_2 := nno ng3_2)
        refine OL.no g3_2 rfl rfl rfl ?_
        refine OL.no g3_2 rfl rfl rfl ?_
        refine OL.q (Y.pickF rfl g3_2 rfl) rfl ?_
        refine OL.nil ?_
        refine EX.seq ?_
        refine CW.cond rfl (fun h1 => ?_) (fun h1 => ?_)
        · repeat (first | replace h1 := yes h1 | replace h1 := no h1 | replace h1 := nyes h1 | replace h1 := nno h1)
          refine CW.seq ?_
          refine CW.region ?_
          refine OL.q (Y.move rfl) rfl ?_
          refine OL.call [] (signbit_any _) Try.call42 rfl rfl rfl rfl (Ent.nothing _) rfl ?_
          rintro _ _ ⟨rfl, rfl⟩
          refine ⟨rfl, rfl, ?_⟩
          refine OL.q (Y.move rfl) rfl ?_
          refine OL.guard (s := 26) rfl (fun g4_2 => ?_) (fun g4_2 => ?_)
          · have ng4_2 := g4_2
            repeat (first | replace ng4_2 := yes ng4_2 | replace ng4_2 := no ng4_2 | replace ng4_2 := nyes ng4_2 | replace ng4_2 := nno ng4_2)
            refine OL.on g4_2 rfl rfl ?_
            refine OL.q (Y.move rfl) rfl ?_
            refine OL.on g4_2 rfl rfl ?_
            refine OL.call [] (signbit_any _) Try.call42 rfl rfl rfl rfl (Ent.nothing _) rfl ?_
            rintro _ _ ⟨rfl, rfl⟩
            refine ⟨rfl, rfl, ?_⟩
            refine OL.on g4_2 rfl rfl ?_
            refine OL.q (Y.not rfl) rfl ?_
            refine OL.q (Y.pickT rfl g4_2 rfl) rfl ?_
            refine OL.q (Y.assign rfl) rfl ?_
            refine OL.nil ?_
            refine EX.seq ?_
            refine CW.ret ?_
            refine EX.retT ?_
            exact EX.fin1 [] rfl rfl rfl ⟨congrArg Value.bool (by
              clear hF
              unfold lessF
              first | contradiction | (simp [*]; done) | (simp_all; done)), rfl⟩
          · have ng4_2 := g4_2
            repeat (first | replace ng4_2 := yes ng4_2 | replace ng4_2 := no ng4_2 | replace ng4_2 := nyes ng4_2 | replace ng4_2 := nno ng4_2)
            refine OL.no g4_2 rfl rfl rfl ?_
            refine OL.no g4_2 rfl rfl rfl ?_
            refine OL.no g4_2 rfl rfl rfl ?_
            refine OL.q (Y.pickF rfl g4_2 rfl) rfl ?_
            refine OL.q (Y.assign rfl) rfl ?_
            refine OL.nil ?_
            refine EX.seq ?_
            refine CW.ret ?_
            refine EX.retT ?_
            exact EX.fin1 [] rfl rfl rfl ⟨congrArg Value.bool (by
              clear hF
              unfold lessF
              first | contradiction | (simp [*]; done) | (simp_all; done)), rfl⟩
        · repeat (first | replace h1 := yes h1 | replace h1 := no h1 | replace h1 := nyes h1 | replace h1 := nno h1)
          refine CW.skip ?_
          refine EX.seq ?_
          refine CW.seq ?_
          refine CW.region ?_
          refine OL.q (Y.move rfl) rfl ?_
          refine OL.q (Y.move rfl) rfl ?_
          refine OL.q (Y.lssF rfl rfl) rfl ?_
          refine OL.q (Y.assign rfl) rfl ?_
          refine OL.nil ?_
          refine EX.seq ?_
          refine CW.ret ?_
          exact EX.fin1 [] rfl rfl rfl ⟨congrArg Value.bool (by
            clear hF
            unfold lessF
            first | contradiction | (simp [*]; done) | (simp_all; done)), rfl⟩
  · have ng1_2 := g1_2
    repeat (first | replace ng1_2 := yes ng1_2 | replace ng1_2 := no ng1_2 | replace ng1_2 := nyes ng1_2 | replace ng1_2 := nno ng1_2)
    refine OL.on g1_2 rfl rfl ?_
    refine OL.q (Y.move rfl) rfl ?_
    refine OL.on g1_2 rfl rfl ?_
    refine OL.call [] (isNaN_any _) Try.call41 rfl rfl rfl rfl (Ent.nothing _) rfl ?_
    rintro _ _ ⟨rfl, rfl⟩
    refine ⟨rfl, rfl, ?_⟩
    refine OL.q (Y.pickF rfl g1_2 rfl) rfl ?_
    refine OL.nil ?_
    refine EX.seq ?_
    refine CW.cond rfl (fun h0 => ?_) (fun h0 => ?_)
    · repeat (first | replace h0 := yes h0 | replace h0 := no h0 | replace h0 := nyes h0 | replace h0 := nno h0)
      refine CW.seq ?_
      refine CW.region ?_
      refine OL.q (Y.move rfl) rfl ?_
      refine OL.call [] (isNaN_any _) Try.call41 rfl rfl rfl rfl (Ent.nothing _) rfl ?_
      rintro _ _ ⟨rfl, rfl⟩
      refine ⟨rfl, rfl, ?_⟩
      refine OL.q (Y.move rfl) rfl ?_
      refine OL.guard (s := 13) rfl (fun g2_2 => ?_) (fun g2_2 => ?_)
      · have ng2_2 := g2_2
        repeat (first | replace ng2_2 := yes ng2_2 | replace ng2_2 := no ng2_2 | replace ng2_2 := nyes ng2_2 | replace ng2_2 := nno ng2_2)
        refine OL.on g2_2 rfl rfl ?_
        refine OL.q (Y.move rfl) rfl ?_
        refine OL.on g2_2 rfl rfl ?_
        refine OL.call [] (isNaN_any _) Try.call41 rfl rfl rfl rfl (Ent.nothing _) rfl ?_
        rintro _ _ ⟨rfl, rfl⟩
        refine ⟨rfl, rfl, ?_⟩
        refine OL.on g2_2 rfl rfl ?_
        refine OL.q (Y.not rfl) rfl ?_
        refine OL.q (Y.pickT rfl g2_2 rfl) rfl ?_
        refine OL.q (Y.assign rfl) rfl ?_
        refine OL.nil ?_
        refine EX.seq ?_
        refine CW.ret ?_
        refine EX.retT ?_
        exact EX.fin1 [] rfl rfl rfl ⟨congrArg Value.bool (by
          clear hF
          unfold lessF
          first | contradiction | (simp [*]; done) | (simp_all; done)), rfl⟩
      · have ng2_2 := g2_2
        repeat (first | replace ng2_2 := yes ng2_2 | replace ng2_2 := no ng2_2 | replace ng2_2 := nyes ng2_2 | replace ng2_2 := nno ng2_2)
        refine OL.no g2_2 rfl rfl rfl ?_
        refine OL.no g2_2 rfl rfl rfl ?_
        refine OL.no g2_2 rfl rfl rfl ?_
        refine OL.q (Y.pickF rfl g2_2 rfl) rfl ?_
        refine OL.q (Y.assign rfl) rfl ?_
        refine OL.nil ?_
        refine EX.seq ?_
        refine CW.ret ?_
        refine EX.retT ?_
        exact EX.fin1 [] rfl rfl rfl ⟨congrArg Value.bool (by
          clear hF
          unfold lessF
          first | contradiction | (simp [*]; done) | (simp_all; done)), rfl⟩
    · repeat (first | replace h0 := yes h0 | replace h0 := no h0 | replace h0 := nyes h0 | replace h0 := nno h0)
      refine CW.skip ?_
      refine EX.seq ?_
      refine CW.seq ?_
      refine CW.seq ?_
      refine CW.region ?_
      refine OL.q (Y.move rfl) rfl ?_
      refine OL.q (Y.eqlF rfl rfl) rfl ?_
      refine OL.q (Y.move rfl) rfl ?_
      refine OL.guard (s := 20) rfl (fun g3_2 => ?_) (fun g3_2 => ?_)
      · have ng3_2 := g3_2
        repeat (first | replace ng3_2 := yes ng3_2 | replace ng3_2 := no ng3_2 | replace ng3_2 := nyes ng3_2 | replace ng3_2 := nno ng3_2)
        refine OL.on g3_2 rfl rfl ?_
        refine OL.q (Y.move rfl) rfl ?_
        refine OL.on g3_2 rfl rfl ?_
        refine OL.q (Y.eqlF rfl rfl) rfl ?_
        refine OL.q (Y.pickT rfl g3_2 rfl) rfl ?_
        refine OL.nil ?_
        refine EX.seq ?_
        refine CW.cond rfl (fun h1 => ?_) (fun h1 => ?_)
        · repeat (first | replace h1 := yes h1 | replace h1 := no h1 | replace h1 := nyes h1 | replace h1 := nno h1)
          refine CW.seq ?_
          refine CW.region ?_
          refine OL.q (Y.move rfl) rfl ?_
          refine OL.call [] (signbit_any _) Try.call42 rfl rfl rfl rfl (Ent.nothing _) rfl ?_
          rintro _ _ ⟨rfl, rfl⟩
          refine ⟨rfl, rfl, ?_⟩
          refine OL.q (Y.move rfl) rfl ?_
          refine OL.guard (s := 26) rfl (fun g4_2 => ?_) (fun g4_2 => ?_)
          · have ng4_2 := g4_2
            repeat (first | replace ng4_2 := yes ng4_2 | replace ng4_2 := no ng4_2 | replace ng4_2 := nyes ng4_2 | replace ng4_2 := nno ng4_2)
            refine OL.on g4_2 rfl rfl ?_
            refine OL.q (Y.move rfl) rfl ?_
            refine OL.on g4_2 rfl rfl ?_
            refine OL.call [] (signbit_any _) Try.call42 rfl rfl rfl rfl (Ent.nothing _) rfl ?_
            rintro _ _ ⟨rfl, rfl⟩
            refine ⟨rfl, rfl, ?_⟩
            refine OL.on g4_2 rfl rfl ?_
            refine OL.q (Y.not rfl) rfl ?_
            refine OL.q (Y.pickT rfl g4_2 rfl) rfl ?_
            refine OL.q (Y.assign rfl) rfl ?_
            refine OL.nil ?_
            refine EX.seq ?_
            refine CW.ret ?_
            refine EX.retT ?_
            exact EX.fin1 [] rfl rfl rfl ⟨congrArg Value.bool (by
              clear hF
              unfold lessF
              first | contradiction | (simp [*]; done) | (simp_all; done)), rfl⟩
          · have ng4_2 := g4_2
            repeat (first | replace ng4_2 := yes ng4_2 | replace ng4_2 := no ng4_2 | replace ng4_2 := nyes ng4_2 | replace ng4_2 := nno ng4_2)
            refine OL.no g4_2 rfl rfl rfl ?_
            refine OL.no g4_2 rfl rfl rfl ?_
            refine OL.no g4_2 rfl rfl rfl ?_
            refine OL.q (Y.pickF rfl g4_2 rfl) rfl ?_
            refine OL.q (Y.assign rfl) rfl ?_
            refine OL.nil ?_
            refine EX.seq ?_
            refine CW.ret ?_
            refine EX.retT ?_
            exact EX.fin1 [] rfl rfl rfl ⟨congrArg Value.bool (by
              clear hF
              unfold lessF
              first | contradiction | (simp [*]; done) | (simp_all; done)), rfl⟩
        · repeat (first | replace h1 := yes h1 | replace h1 := no h1 | replace h1 := nyes h1 | replace h1 := nno h1)
          refine CW.skip ?_
          refine EX.seq ?_
          refine CW.seq ?_
          refine CW.region ?_
          refine OL.q (Y.move rfl) rfl ?_
          refine OL.q (Y.move rfl) rfl ?_
          refine OL.q (Y.lssF rfl rfl) rfl ?_
          refine OL.q (Y.assign rfl) rfl ?_
          refine OL.nil ?_
          refine EX.seq ?_
          refine CW.ret ?_
          exact EX.fin1 [] rfl rfl rfl ⟨congrArg Value.bool (by
            clear hF
            unfold lessF
            first | contradiction | (simp [*]; done) | (simp_all; done)), rfl⟩
      · have ng3_2 := g3_2
        repeat (first | replace ng3_2 := yes ng3_2 | replace ng3_2 := no ng3_2 | replace ng3_2 := nyes ng3_2 | replace ng3_2 := nno ng3_2)
        refine OL.no g3_2 rfl rfl rfl ?_
        refine OL.no g3_2 rfl rfl rfl ?_
        refine OL.q (Y.pickF rfl g3_2 rfl) rfl ?_
        refine OL.nil ?_
        refine EX.seq ?_
        refine CW.cond rfl (fun h1 => ?_) (fun h1 => ?_)
        · repeat (first | replace h1 := yes h1 | replace h1 := no h1 | replace h1 := nyes h1 | replace h1 := nno h1)
          refine CW.seq ?_
          refine CW.region ?_
          refine OL.q (Y.move rfl) rfl ?_
          refine OL.call [] (signbit_any _) Try.call42 rfl rfl rfl rfl (Ent.nothing _) rfl ?_
          rintro _ _ ⟨rfl, rfl⟩
          refine ⟨rfl, rfl, ?_⟩
          refine OL.q (Y.move rfl) rfl ?_
          refine OL.guard (s := 26) rfl (fun g4_2 => ?_) (fun g4_2 => ?_)
          · have ng4_2 := g4_2
            repeat (first | replace ng4_2 := yes ng4_2 | replace ng4_2 := no ng4_2 | replace ng4_2 := nyes ng4_2 | replace ng4_2 := nno ng4_2)
            refine OL.on g4_2 rfl rfl ?_
            refine OL.q (Y.move rfl) rfl ?_
            refine OL.on g4_2 rfl rfl ?_
            refine OL.call [] (signbit_any _) Try.call42 rfl rfl rfl rfl (Ent.nothing _) rfl ?_
            rintro _ _ ⟨rfl, rfl⟩
            refine ⟨rfl, rfl, ?_⟩
            refine OL.on g4_2 rfl rfl ?_
            refine OL.q (Y.not rfl) rfl ?_
            refine OL.q (Y.pickT rfl g4_2 rfl) rfl ?_
            refine OL.q (Y.assign rfl) rfl ?_
            refine OL.nil ?_
            refine EX.seq ?_
            refine CW.ret ?_
            refine EX.retT ?_
            exact EX.fin1 [] rfl rfl rfl ⟨congrArg Value.bool (by
              clear hF
              unfold lessF
              first | contradiction | (simp [*]; done) | (simp_all; done)), rfl⟩
          · have ng4_2 := g4_2
            repeat (first | replace ng4_2 := yes ng4_2 | replace ng4_2 := no ng4_2 | replace ng4_2 := nyes ng4_2 | replace ng4_2 := nno ng4_2)
            refine OL.no g4_2 rfl rfl rfl ?_
            refine OL.no g4_2 rfl rfl rfl ?_
            refine OL.no g4_2 rfl rfl rfl ?_
            refine OL.q (Y.pickF rfl g4_2 rfl) rfl ?_
            refine OL.q (Y.assign rfl) rfl ?_
            refine OL.nil ?_
            refine EX.seq ?_
            refine CW.ret ?_
            refine EX.retT ?_
            exact EX.fin1 [] rfl rfl rfl ⟨congrArg Value.bool (by
              clear hF
              unfold lessF
              first | contradiction | (simp [*]; done) | (simp_all; done)), rfl⟩
        · repeat (first | replace h1 := yes h1 | replace h1 := no h1 | replace h1 := nyes h1 | replace h1 := nno h1)
          refine CW.skip ?_
          refine EX.seq ?_
          refine CW.seq ?_
          refine CW.region ?_
          refine OL.q (Y.move rfl) rfl ?_
          refine OL.q (Y.move rfl) rfl ?_
          refine OL.q (Y.lssF rfl rfl) rfl ?_
          refine OL.q (Y.assign rfl) rfl ?_
          refine OL.nil ?_
          refine EX.seq ?_
          refine CW.ret ?_
          exact EX.fin1 [] rfl rfl rfl ⟨congrArg Value.bool (by
            clear hF
            unfold lessF
            first | contradiction | (simp [*]; done) | (simp_all; done)), rfl⟩


attribute [local irreducible] keptF lessF
theorem okV_dec {n : Nat} {v : Int} (h0 : 0 ≤ v) (h1 : v < n) : okV n v := ⟨h0, h1⟩
theorem map_rep (n : Nat) : (List.replicate n 0).map flCells = List.replicate n [fl 0] := by simp [flCells]
theorem clamp_any (n : Int) : ∃ m : Nat, (if (1048576 : Int) < (if (0 : Int) > n then 0 else n) then (1048576 : Int) else (if (0 : Int) > n then 0 else n)) = m ∧ m ≤ 1048576 ∧ (0 ≤ n ∧ n ≤ 1048576 → (m : Int) = n) ∧ (n < 0 → m = 0) := by
  refine ⟨(if (1048576 : Int) < (if (0 : Int) > n then 0 else n) then (1048576 : Int) else (if (0 : Int) > n then 0 else n)).toNat, ?_, ?_, ?_, ?_⟩ <;> (repeat' split) <;> omega


theorem new_any (n : Int) (m dc : Nat) (hm : m ≤ 1048576) (hnm : (0 ≤ n ∧ n = m) ∨ (n < 0 ∧ m = 0)) :
    FS Try.prog 20 [.int .i64 n, fl dc] (nothing) [] (fun v H => ∃ t a, v = .pointer (some ⟨t, 0, none⟩) ∧ H = tabL t a m m (List.replicate m 0) one1 (decayF dc)) := by
  refine FS.intro (N := 20) Try.func20 rfl rfl rfl (fun F w0 hF => ?_)
  refine CW.seq ?_
  refine CW.region ?_
  refine OL.q (Y.assign rfl) rfl ?_
  refine OL.nil ?_
  refine EX.seq ?_
  refine CW.seq ?_
  refine CW.region ?_
  refine OL.q (Y.move rfl) rfl ?_
  refine OL.q (Y.maxI rfl rfl) rfl ?_
  refine OL.q (Y.minI rfl rfl) rfl ?_
  refine OL.q (Y.assign rfl) rfl ?_
  refine OL.nil ?_
  refine EX.seq ?_
  refine CW.seq ?_
  refine CW.seq ?_
  have e7 : (if (1048576 : Int) < (if (0 : Int) > n then 0 else n) then (1048576 : Int) else (if (0 : Int) > n then 0 else n)) = m := by (repeat' split) <;> omega
  rw [e7]
  refine CW.region ?_
  refine OL.q (Y.move rfl) rfl ?_
  refine OL.q (Y.gtrF rfl rfl) rfl ?_
  refine OL.q (Y.move rfl) rfl ?_
  refine OL.guard (s := 10) rfl (fun g2_2 => ?_) (fun g2_2 => ?_)
  · have ng2_2 := g2_2
    repeat (first | replace ng2_2 := yes ng2_2 | replace ng2_2 := no ng2_2 | replace ng2_2 := nyes ng2_2 | replace ng2_2 := nno ng2_2)
    refine OL.on g2_2 rfl rfl ?_
    refine OL.q (Y.move rfl) rfl ?_
    refine OL.on g2_2 rfl rfl ?_
    refine OL.q (Y.lssF rfl rfl) rfl ?_
    refine OL.q (Y.pickT rfl g2_2 rfl) rfl ?_
    refine OL.q (Y.not rfl) rfl ?_
    refine OL.nil ?_
    refine EX.seq ?_
    refine CW.cond rfl (fun h0 => ?_) (fun h0 => ?_)
    · repeat (first | replace h0 := yes h0 | replace h0 := no h0 | replace h0 := nyes h0 | replace h0 := nno h0)
      refine CW.region ?_
      refine OL.q (Y.assign rfl) rfl ?_
      refine OL.nil ?_
      refine EX.seq ?_
      refine CW.seq ?_
      refine CW.region ?_
      refine OL.q (Y.move rfl) rfl ?_
      refine OL.make (l := m) (c := m) Try.underlying61 E48 rfl rfl rfl rfl (Nat.le_refl _) (by omega) (by omega) rfl (fun b16 => ⟨rfl, rfl, ?_⟩)
      refine OL.q (Y.move rfl) rfl ?_
      refine OL.q (Y.build B79 rfl rfl) rfl ?_
      refine OL.box rfl rfl rfl (fun b19 => ⟨rfl, rfl, ?_⟩)
      refine OL.q (Y.assign rfl) rfl ?_
      refine OL.nil ?_
      refine EX.seq ?_
      refine CW.ret ?_
      refine EX.fin1 [1, 0] rfl rfl rfl ⟨b19, some ⟨b16, 0, none⟩, rfl, ?_⟩
      unfold tabL decayF
      first | contradiction | (rw [if_pos ⟨ng2_2, h0⟩, map_rep]; rfl) | (rw [if_neg (fun q => by simp_all), map_rep]; rfl)
    · repeat (first | replace h0 := yes h0 | replace h0 := no h0 | replace h0 := nyes h0 | replace h0 := nno h0)
      refine CW.skip ?_
      refine EX.seq ?_
      refine CW.seq ?_
      refine CW.region ?_
      refine OL.q (Y.move rfl) rfl ?_
      refine OL.make (l := m) (c := m) Try.underlying61 E48 rfl rfl rfl rfl (Nat.le_refl _) (by omega) (by omega) rfl (fun b16 => ⟨rfl, rfl, ?_⟩)
      refine OL.q (Y.move rfl) rfl ?_
      refine OL.q (Y.build B79 rfl rfl) rfl ?_
      refine OL.box rfl rfl rfl (fun b19 => ⟨rfl, rfl, ?_⟩)
      refine OL.q (Y.assign rfl) rfl ?_
      refine OL.nil ?_
      refine EX.seq ?_
      refine CW.ret ?_
      refine EX.fin1 [1, 0] rfl rfl rfl ⟨b19, some ⟨b16, 0, none⟩, rfl, ?_⟩
      unfold tabL decayF
      first | contradiction | (rw [if_pos ⟨ng2_2, h0⟩, map_rep]; rfl) | (rw [if_neg (fun q => by simp_all), map_rep]; rfl)
  · have ng2_2 := g2_2
    repeat (first | replace ng2_2 := yes ng2_2 | replace ng2_2 := no ng2_2 | replace ng2_2 := nyes ng2_2 | replace ng2_2 := nno ng2_2)
    refine OL.no g2_2 rfl rfl rfl ?_
    refine OL.no g2_2 rfl rfl rfl ?_
    refine OL.q (Y.pickF rfl g2_2 rfl) rfl ?_
    refine OL.q (Y.not rfl) rfl ?_
    refine OL.nil ?_
    refine EX.seq ?_
    refine CW.cond rfl (fun h0 => ?_) (fun h0 => ?_)
    · repeat (first | replace h0 := yes h0 | replace h0 := no h0 | replace h0 := nyes h0 | replace h0 := nno h0)
      refine CW.region ?_
      refine OL.q (Y.assign rfl) rfl ?_
      refine OL.nil ?_
      refine EX.seq ?_
      refine CW.seq ?_
      refine CW.region ?_
      refine OL.q (Y.move rfl) rfl ?_
      refine OL.make (l := m) (c := m) Try.underlying61 E48 rfl rfl rfl rfl (Nat.le_refl _) (by omega) (by omega) rfl (fun b16 => ⟨rfl, rfl, ?_⟩)
      refine OL.q (Y.move rfl) rfl ?_
      refine OL.q (Y.build B79 rfl rfl) rfl ?_
      refine OL.box rfl rfl rfl (fun b19 => ⟨rfl, rfl, ?_⟩)
      refine OL.q (Y.assign rfl) rfl ?_
      refine OL.nil ?_
      refine EX.seq ?_
      refine CW.ret ?_
      refine EX.fin1 [1, 0] rfl rfl rfl ⟨b19, some ⟨b16, 0, none⟩, rfl, ?_⟩
      unfold tabL decayF
      first | contradiction | (rw [if_pos ⟨ng2_2, h0⟩, map_rep]; rfl) | (rw [if_neg (fun q => by simp_all), map_rep]; rfl)
    · repeat (first | replace h0 := yes h0 | replace h0 := no h0 | replace h0 := nyes h0 | replace h0 := nno h0)
      refine CW.skip ?_
      refine EX.seq ?_
      refine CW.seq ?_
      refine CW.region ?_
      refine OL.q (Y.move rfl) rfl ?_
      refine OL.make (l := m) (c := m) Try.underlying61 E48 rfl rfl rfl rfl (Nat.le_refl _) (by omega) (by omega) rfl (fun b16 => ⟨rfl, rfl, ?_⟩)
      refine OL.q (Y.move rfl) rfl ?_
      refine OL.q (Y.build B79 rfl rfl) rfl ?_
      refine OL.box rfl rfl rfl (fun b19 => ⟨rfl, rfl, ?_⟩)
      refine OL.q (Y.assign rfl) rfl ?_
      refine OL.nil ?_
      refine EX.seq ?_
      refine CW.ret ?_
      refine EX.fin1 [1, 0] rfl rfl rfl ⟨b19, some ⟨b16, 0, none⟩, rfl, ?_⟩
      unfold tabL decayF
      first | contradiction | (rw [if_pos ⟨ng2_2, h0⟩, map_rep]; rfl) | (rw [if_neg (fun q => by simp_all), map_rep]; rfl)

theorem has_any (t : Nat) (a : Option Addr) (n c : Nat) (xs : List Nat) (st dc : Nat) (v : Int) (_hn : xs.length = n) :
    FS Try.prog 38 [.pointer (some ⟨t, 0, none⟩), .int .i64 v] (nothing) [blk t [.slice a n c, fl st, fl dc] 79, row a n c 48 1 (xs.map flCells)] (fun r H => r = .bool (decide (okV n v)) ∧ H = tabL t a n c xs st dc) := by
  refine FS.intro (N := 16) Try.func38 rfl rfl rfl (fun F w0 hF => ?_)
  refine CW.seq ?_
  refine CW.region ?_
  refine OL.q (Y.assign rfl) rfl ?_
  refine OL.nil ?_
  refine EX.seq ?_
  refine CW.seq ?_
  refine CW.region ?_
  refine OL.q (Y.move rfl) rfl ?_
  refine OL.q (Y.geq rfl rfl) rfl ?_
  refine OL.q (Y.move rfl) rfl ?_
  refine OL.guard (s := 7) rfl (fun g1_2 => ?_) (fun g1_2 => ?_)
  · have ng1_2 := g1_2
    repeat (first | replace ng1_2 := yes ng1_2 | replace ng1_2 := no ng1_2 | replace ng1_2 := nyes ng1_2 | replace ng1_2 := nno ng1_2)
    refine OL.on g1_2 rfl rfl ?_
    refine OL.q (Y.move rfl) rfl ?_
    refine OL.on g1_2 rfl rfl ?_
    refine OL.q (Y.move rfl) rfl ?_
    refine OL.on g1_2 rfl rfl ?_
    refine OL.q (Y.nilCheck rfl) rfl ?_
    refine OL.on g1_2 rfl rfl ?_
    refine OL.q (Y.field L79_0 rfl) rfl ?_
    refine OL.on g1_2 rfl rfl ?_
    first | refine OL.q (Y.load T61 rfl (Ent.at 0 rfl (Up.cellIs _ _ _) (blk_cell rfl))) rfl ?_ | refine OL.q (Y.load T61 rfl (Ent.at 1 rfl (Up.cellIs _ _ _) (blk_cell rfl))) rfl ?_ | refine OL.q (Y.load T61 rfl (Ent.at 2 rfl (Up.cellIs _ _ _) (blk_cell rfl))) rfl ?_ | refine OL.q (Y.load T61 rfl (Ent.at 3 rfl (Up.cellIs _ _ _) (blk_cell rfl))) rfl ?_ | refine OL.q (Y.load T61 rfl (Ent.at 4 rfl (Up.cellIs _ _ _) (blk_cell rfl))) rfl ?_ | refine OL.q (Y.load T61 rfl (Ent.at 5 rfl (Up.cellIs _ _ _) (blk_cell rfl))) rfl ?_
    refine OL.on g1_2 rfl rfl ?_
    refine OL.q (Y.lenSl Try.underlying61 rfl) rfl ?_
    refine OL.on g1_2 rfl rfl ?_
    refine OL.q (Y.lss rfl rfl) rfl ?_
    refine OL.q (Y.pickT rfl g1_2 rfl) rfl ?_
    refine OL.q (Y.assign rfl) rfl ?_
    refine OL.nil ?_
    refine EX.seq ?_
    refine CW.ret ?_
    exact EX.fin1 [0, 1] rfl rfl rfl ⟨congrArg Value.bool (by first | (simp_all [okV]; done) | exact (decide_eq_false (by unfold okV; omega)).symm), rfl⟩
  · have ng1_2 := g1_2
    repeat (first | replace ng1_2 := yes ng1_2 | replace ng1_2 := no ng1_2 | replace ng1_2 := nyes ng1_2 | replace ng1_2 := nno ng1_2)
    refine OL.no g1_2 rfl rfl rfl ?_
    refine OL.no g1_2 rfl rfl rfl ?_
    refine OL.no g1_2 rfl rfl rfl ?_
    refine OL.no g1_2 rfl rfl rfl ?_
    refine OL.no g1_2 rfl rfl rfl ?_
    refine OL.no g1_2 rfl rfl rfl ?_
    refine OL.no g1_2 rfl rfl rfl ?_
    refine OL.q (Y.pickF rfl g1_2 rfl) rfl ?_
    refine OL.q (Y.assign rfl) rfl ?_
    refine OL.nil ?_
    refine EX.seq ?_
    refine CW.ret ?_
    exact EX.fin1 [0, 1] rfl rfl rfl ⟨congrArg Value.bool (by first | (simp_all [okV]; done) | exact (decide_eq_false (by unfold okV; omega)).symm), rfl⟩

theorem set_any (t : Nat) (a : Option Addr) (n c : Nat) (xs : List Nat) (st dc : Nat) (v : Int) (x : Nat) (hn : xs.length = n) :
    FS Try.prog 21 [.pointer (some ⟨t, 0, none⟩), .int .i64 v, fl x] (nothing) [blk t [.slice a n c, fl st, fl dc] 79, row a n c 48 1 (xs.map flCells)] (fun r H => r = .bool (decide (okV n v)) ∧ H = tabL t a n c (if okV n v then xs.set v.toNat (keptF x) else xs) st dc) := by
  refine FS.intro (N := 19) Try.func21 rfl rfl rfl (fun F w0 hF => ?_)
  refine CW.seq ?_
  refine CW.region ?_
  refine OL.q (Y.assign rfl) rfl ?_
  refine OL.nil ?_
  refine EX.seq ?_
  refine CW.seq ?_
  refine CW.seq ?_
  refine CW.region ?_
  refine OL.q (Y.move rfl) rfl ?_
  refine OL.q (Y.move rfl) rfl ?_
  refine OL.call [0, 1] (has_any t a n c xs st dc v hn) Try.call38 rfl rfl rfl rfl (Ent.nothing _) rfl ?_
  rintro _ _ ⟨rfl, rfl⟩
  refine ⟨rfl, rfl, ?_⟩
  refine OL.q (Y.not rfl) rfl ?_
  refine OL.nil ?_
  refine EX.seq ?_
  refine CW.cond rfl (fun h0 => ?_) (fun h0 => ?_)
  · repeat (first | replace h0 := yes h0 | replace h0 := no h0 | replace h0 := nyes h0 | replace h0 := nno h0)
    refine CW.seq ?_
    refine CW.region ?_
    refine OL.q (Y.assign rfl) rfl ?_
    refine OL.nil ?_
    refine EX.seq ?_
    refine CW.ret ?_
    refine EX.retT ?_
    exact EX.fin1 [0, 1] rfl rfl rfl ⟨by simp [h0], by rw [if_neg h0]; rfl⟩
  · repeat (first | replace h0 := yes h0 | replace h0 := no h0 | replace h0 := nyes h0 | replace h0 := nno h0)
    obtain ⟨k, rfl⟩ := Int.eq_ofNat_of_zero_le h0.1
    have hk : k < n := by have := h0.2; omega
    obtain ⟨x0, hx⟩ : ∃ p, xs[k]? = some p := ⟨_, List.getElem?_eq_getElem (by omega)⟩
    refine CW.skip ?_
    refine EX.seq ?_
    refine CW.seq ?_
    refine CW.drawn [(true, 0), (true, 1), (true, 2), (true, 3), (true, 4), (true, 5), (false, 6)] [7, 8] [0] mixed (by kernel_rfl) (by repeat (first | exact PanicOk.body | refine PanicOk.then ?_ | refine PanicOk.block ?_)) (by kernel_rfl) rfl rfl rfl rfl ?_
    refine OL.qt (Y.move rfl) rfl ?_
    refine OL.qt (Y.nilCheck rfl) rfl ?_
    refine OL.qt (Y.field L79_0 rfl) rfl ?_
    first | refine OL.qt (Y.load T61 rfl (Ent.at 0 rfl (Up.cellIs _ _ _) (blk_cell rfl))) rfl ?_ | refine OL.qt (Y.load T61 rfl (Ent.at 1 rfl (Up.cellIs _ _ _) (blk_cell rfl))) rfl ?_ | refine OL.qt (Y.load T61 rfl (Ent.at 2 rfl (Up.cellIs _ _ _) (blk_cell rfl))) rfl ?_ | refine OL.qt (Y.load T61 rfl (Ent.at 3 rfl (Up.cellIs _ _ _) (blk_cell rfl))) rfl ?_ | refine OL.qt (Y.load T61 rfl (Ent.at 4 rfl (Up.cellIs _ _ _) (blk_cell rfl))) rfl ?_ | refine OL.qt (Y.load T61 rfl (Ent.at 5 rfl (Up.cellIs _ _ _) (blk_cell rfl))) rfl ?_
    refine OL.qt (Y.move rfl) rfl ?_
    refine OL.qt (Y.move rfl) rfl ?_
    refine OL.call [] (kept_any _) Try.call39 rfl rfl rfl rfl (Ent.nothing _) rfl ?_
    rintro _ _ ⟨rfl, rfl⟩
    refine ⟨rfl, rfl, ?_⟩
    refine OL.nil ?_
    refine EX.tail ?_
    refine OL.q (Y.index (k := k) Try.underlying61 C48 rfl rfl (Ent.at 1 rfl (Up.rd _ _ _ _) row_rd) rfl hk) rfl ?_
    refine OL.storeRow (k := k) (j := 0) 1 rfl C48 rfl rfl (by omega) rfl rfl rfl (mget flCells hx) (by simp [flCells]) ⟨rfl, rfl, ?_⟩
    refine OL.nil ?_
    refine EX.seq ?_
    refine CW.seq ?_
    refine CW.region ?_
    refine OL.q (Y.assign rfl) rfl ?_
    refine OL.nil ?_
    refine EX.seq ?_
    refine CW.ret ?_
    exact EX.fin1 [0, 1] rfl rfl rfl ⟨by simp [h0], by rw [if_pos h0]; unfold tabL; rw [List.map_set]; rfl⟩

theorem score_any (t : Nat) (a : Option Addr) (n c : Nat) (xs : List Nat) (st dc : Nat) (v : Int) (hn : xs.length = n) :
    FS Try.prog 25 [.pointer (some ⟨t, 0, none⟩), .int .i64 v] (nothing) [blk t [.slice a n c, fl st, fl dc] 79, row a n c 48 1 (xs.map flCells)] (fun r H => r = fl (if okV n v then xs.getD v.toNat 0 else nan1) ∧ H = tabL t a n c xs st dc) := by
  refine FS.intro (N := 17) Try.func25 rfl rfl rfl (fun F w0 hF => ?_)
  refine CW.seq ?_
  refine CW.region ?_
  refine OL.q (Y.assign rfl) rfl ?_
  refine OL.nil ?_
  refine EX.seq ?_
  refine CW.seq ?_
  refine CW.seq ?_
  refine CW.region ?_
  refine OL.q (Y.move rfl) rfl ?_
  refine OL.q (Y.move rfl) rfl ?_
  refine OL.call [0, 1] (has_any t a n c xs st dc v hn) Try.call38 rfl rfl rfl rfl (Ent.nothing _) rfl ?_
  rintro _ _ ⟨rfl, rfl⟩
  refine ⟨rfl, rfl, ?_⟩
  refine OL.q (Y.not rfl) rfl ?_
  refine OL.nil ?_
  refine EX.seq ?_
  refine CW.cond rfl (fun h0 => ?_) (fun h0 => ?_)
  · repeat (first | replace h0 := yes h0 | replace h0 := no h0 | replace h0 := nyes h0 | replace h0 := nno h0)
    refine CW.seq ?_
    refine CW.region ?_
    refine OL.call [] (nan_any) Try.call43 rfl rfl rfl rfl (Ent.nothing _) rfl ?_
    rintro _ _ ⟨rfl, rfl⟩
    refine ⟨rfl, rfl, ?_⟩
    refine OL.q (Y.assign rfl) rfl ?_
    refine OL.nil ?_
    refine EX.seq ?_
    refine CW.ret ?_
    refine EX.retT ?_
    exact EX.fin1 [0, 1] rfl rfl rfl ⟨by rw [if_neg h0], rfl⟩
  · repeat (first | replace h0 := yes h0 | replace h0 := no h0 | replace h0 := nyes h0 | replace h0 := nno h0)
    obtain ⟨k, rfl⟩ := Int.eq_ofNat_of_zero_le h0.1
    have hk : k < n := by have := h0.2; omega
    obtain ⟨x0, hx⟩ : ∃ p, xs[k]? = some p := ⟨_, List.getElem?_eq_getElem (by omega)⟩
    refine CW.skip ?_
    refine EX.seq ?_
    refine CW.seq ?_
    refine CW.region ?_
    refine OL.q (Y.move rfl) rfl ?_
    refine OL.q (Y.nilCheck rfl) rfl ?_
    refine OL.q (Y.field L79_0 rfl) rfl ?_
    first | refine OL.q (Y.load T61 rfl (Ent.at 0 rfl (Up.cellIs _ _ _) (blk_cell rfl))) rfl ?_ | refine OL.q (Y.load T61 rfl (Ent.at 1 rfl (Up.cellIs _ _ _) (blk_cell rfl))) rfl ?_ | refine OL.q (Y.load T61 rfl (Ent.at 2 rfl (Up.cellIs _ _ _) (blk_cell rfl))) rfl ?_ | refine OL.q (Y.load T61 rfl (Ent.at 3 rfl (Up.cellIs _ _ _) (blk_cell rfl))) rfl ?_ | refine OL.q (Y.load T61 rfl (Ent.at 4 rfl (Up.cellIs _ _ _) (blk_cell rfl))) rfl ?_ | refine OL.q (Y.load T61 rfl (Ent.at 5 rfl (Up.cellIs _ _ _) (blk_cell rfl))) rfl ?_
    refine OL.q (Y.move rfl) rfl ?_
    refine OL.q (Y.index (k := k) Try.underlying61 C48 rfl rfl (Ent.at 1 rfl (Up.rd _ _ _ _) row_rd) rfl hk) rfl ?_
    refine OL.q (Y.load T48 rfl (cellsIs_at0 (rd_at (Ent.at 1 rfl (Up.rd _ _ _ _) row_rd) (mget flCells hx)) rfl)) rfl ?_
    refine OL.q (Y.assign rfl) rfl ?_
    refine OL.nil ?_
    refine EX.seq ?_
    refine CW.ret ?_
    exact EX.fin1 [0, 1] rfl rfl rfl ⟨by rw [if_pos h0]; simp [List.getD_eq_getElem?_getD, hx], rfl⟩

theorem step_any (t : Nat) (a : Option Addr) (n c : Nat) (xs : List Nat) (st dc : Nat) :
    FS Try.prog 33 [.pointer (some ⟨t, 0, none⟩)] (nothing) [blk t [.slice a n c, fl st, fl dc] 79, row a n c 48 1 (xs.map flCells)] (fun r H => r = fl st ∧ H = tabL t a n c xs st dc) := by
  refine FS.intro (N := 7) Try.func33 rfl rfl rfl (fun F w0 hF => ?_)
  refine CW.seq ?_
  refine CW.region ?_
  refine OL.q (Y.assign rfl) rfl ?_
  refine OL.nil ?_
  refine EX.seq ?_
  refine CW.seq ?_
  refine CW.region ?_
  refine OL.q (Y.move rfl) rfl ?_
  refine OL.q (Y.nilCheck rfl) rfl ?_
  refine OL.q (Y.field L79_1 rfl) rfl ?_
  first | refine OL.q (Y.load T48 rfl (Ent.at 0 rfl (Up.cellIs _ _ _) (blk_cell rfl))) rfl ?_ | refine OL.q (Y.load T48 rfl (Ent.at 1 rfl (Up.cellIs _ _ _) (blk_cell rfl))) rfl ?_ | refine OL.q (Y.load T48 rfl (Ent.at 2 rfl (Up.cellIs _ _ _) (blk_cell rfl))) rfl ?_ | refine OL.q (Y.load T48 rfl (Ent.at 3 rfl (Up.cellIs _ _ _) (blk_cell rfl))) rfl ?_ | refine OL.q (Y.load T48 rfl (Ent.at 4 rfl (Up.cellIs _ _ _) (blk_cell rfl))) rfl ?_ | refine OL.q (Y.load T48 rfl (Ent.at 5 rfl (Up.cellIs _ _ _) (blk_cell rfl))) rfl ?_
  refine OL.q (Y.assign rfl) rfl ?_
  refine OL.nil ?_
  refine EX.seq ?_
  refine CW.ret ?_
  exact EX.fin1 [0, 1] rfl rfl rfl ⟨rfl, rfl⟩


/-- No NaN, and no nought below nought. -/
def Plain (xs : List Nat) : Prop := ∀ x ∈ xs, nanD x = false ∧ (key x = 0 → x = 0)
def kv (xs : List Nat) (v : Int) : Int := key (xs.getD v.toNat 0)
theorem key0 : key 0 = 0 := by decide +kernel
theorem nan0 : nanD 0 = false := by decide +kernel
theorem less_plain {x y : Nat} (hx : nanD x = false ∧ (key x = 0 → x = 0)) (hy : nanD y = false ∧ (key y = 0 → y = 0)) : lessF x y = decide (key x < key y) := by
  have e1 : (ford x 0 = some .eq) ↔ key x = 0 := by
    have := ford_eq hx.1 nan0
    rw [key0] at this
    simpa using this
  have e2 : (ford y 0 = some .eq) ↔ key y = 0 := by
    have := ford_eq hy.1 nan0
    rw [key0] at this
    simpa using this
  unfold lessF
  rw [isNan_eq, isNan_eq, hx.1, hy.1]
  simp only [Bool.or_self, Bool.false_eq_true, if_false]
  split
  · rename_i h
    have hx0 := hx.2 (e1.1 h.1)
    have hy0 := hy.2 (e2.1 h.2)
    subst hx0 hy0
    simp
  · exact ford_lt hx.1 hy.1
theorem minf_plain : nanD minf = false ∧ (key minf = 0 → minf = 0) := by
  have h : key minf ≠ 0 := by
    show (if (true : Bool) then -((big : Nat) : Int) else (big : Int)) ≠ 0
    have := big_pos
    simp; omega
  exact ⟨by decide +kernel, fun e => absurd e h⟩
theorem kept_plain (x : Nat) : nanD (keptF x) = false ∧ (key (keptF x) = 0 → keptF x = 0) := by
  unfold keptF
  rw [isNan_eq]
  split
  · exact minf_plain
  · rename_i h
    have hx : nanD x = false := by simpa using h
    split
    · exact ⟨nan0, fun _ => rfl⟩
    · rename_i h2
      refine ⟨hx, fun e => absurd ?_ h2⟩
      have := ford_eq hx nan0
      rw [key0] at this
      rw [e] at this
      simpa using this
theorem plain_set {xs : List Nat} (h : Plain xs) (k x : Nat) : Plain (xs.set k (keptF x)) := fun y hy => by
  rcases List.mem_or_eq_of_mem_set hy with hy | rfl
  · exact h y hy
  · exact kept_plain x
theorem plain_zero (n : Nat) : Plain (List.replicate n 0) := fun y hy => by
  rw [List.eq_of_mem_replicate hy]
  exact ⟨nan0, fun _ => rfl⟩
theorem plain_at {xs : List Nat} {n : Nat} {v : Int} (h : Plain xs) (hn : xs.length = n) (hv : okV n v) : nanD (xs.getD v.toNat 0) = false ∧ (key (xs.getD v.toNat 0) = 0 → xs.getD v.toNat 0 = 0) := by
  have hlt : v.toNat < xs.length := by have := hv.1; have := hv.2; omega
  rw [List.getD_eq_getElem?_getD, List.getElem?_eq_getElem hlt]
  exact h _ (List.getElem_mem hlt)

/-- The best of a list. -/
structure BestIs (n : Nat) (xs : List Nat) (l : List Int) (b : Int) (f : Bool) : Prop where
  no : f = false → b = 0 ∧ ∀ v ∈ l, ¬ okV n v
  yes : f = true → b ∈ l ∧ okV n b ∧ ∀ v ∈ l, okV n v → kv xs v ≤ kv xs b ∧ (kv xs v = kv xs b → b ≤ v)
section
variable {n : Nat} {xs : List Nat} {l : List Int} {b v : Int} {f : Bool}
theorem BestIs.nil : BestIs n xs [] 0 false := ⟨fun _ => ⟨rfl, fun _ h => nomatch h⟩, fun h => nomatch h⟩
theorem BestIs.skip (h : BestIs n xs l b f) (hv : ¬ okV n v) : BestIs n xs (l ++ [v]) b f where
  no e := ⟨(h.no e).1, fun u hu => by
    rcases List.mem_append.1 hu with hu | hu
    · exact (h.no e).2 u hu
    · rw [List.mem_singleton.1 hu]; exact hv⟩
  yes e := ⟨List.mem_append_left _ (h.yes e).1, (h.yes e).2.1, fun u hu ho => by
    rcases List.mem_append.1 hu with hu | hu
    · exact (h.yes e).2.2 u hu ho
    · rw [List.mem_singleton.1 hu] at ho; exact absurd ho hv⟩
theorem BestIs.first (h : BestIs n xs l b false) (hv : okV n v) : BestIs n xs (l ++ [v]) v true where
  no e := nomatch e
  yes _ := ⟨by simp, hv, fun u hu ho => by
    rcases List.mem_append.1 hu with hu | hu
    · exact absurd ho ((h.no rfl).2 u hu)
    · rw [List.mem_singleton.1 hu]; exact ⟨Int.le_refl _, fun _ => Int.le_refl _⟩⟩
theorem BestIs.turn (h : BestIs n xs l b true) (hv : okV n v) (hk : kv xs b < kv xs v ∨ (kv xs b = kv xs v ∧ v < b)) : BestIs n xs (l ++ [v]) v true where
  no e := nomatch e
  yes _ := ⟨by simp, hv, fun u hu ho => by
    rcases List.mem_append.1 hu with hu | hu
    · have := (h.yes rfl).2.2 u hu ho
      omega
    · rw [List.mem_singleton.1 hu]; exact ⟨Int.le_refl _, fun _ => Int.le_refl _⟩⟩
theorem BestIs.stay (h : BestIs n xs l b true) (hk : kv xs v < kv xs b ∨ (kv xs b = kv xs v ∧ b ≤ v)) : BestIs n xs (l ++ [v]) b true where
  no e := nomatch e
  yes _ := ⟨List.mem_append_left _ (h.yes rfl).1, (h.yes rfl).2.1, fun u hu ho => by
    rcases List.mem_append.1 hu with hu | hu
    · exact (h.yes rfl).2.2 u hu ho
    · rw [List.mem_singleton.1 hu]; omega⟩
theorem BestIs.same {l' : List Int} {b' : Int} {f' : Bool} (h : BestIs n xs l b f) (h' : BestIs n xs l' b' f') (hm : ∀ v, v ∈ l ↔ v ∈ l') : b = b' ∧ f = f' := by
  cases f with
  | false =>
    cases f' with
    | false => exact ⟨by rw [(h.no rfl).1, (h'.no rfl).1], rfl⟩
    | true =>
      have := h'.yes rfl
      exact absurd this.2.1 ((h.no rfl).2 _ ((hm _).2 this.1))
  | true =>
    have hy := h.yes rfl
    cases f' with
    | false => exact absurd hy.2.1 ((h'.no rfl).2 _ ((hm _).1 hy.1))
    | true =>
      have hy' := h'.yes rfl
      have h1 := hy.2.2 b' ((hm _).2 hy'.1) hy'.2.1
      have h2 := hy'.2.2 b ((hm _).1 hy.1) hy.2.1
      exact ⟨by omega, rfl⟩
end
theorem take_snoc {α : Type _} {l : List α} {k : Nat} {x : α} (h : l[k]? = some x) : l.take (k + 1) = l.take k ++ [x] := by
  rw [List.take_add_one, h]; rfl
theorem kv_at {xs : List Nat} {k x : Nat} (h : xs[k]? = some x) : kv xs k = key x := by simp [kv, List.getD_eq_getElem?_getD, h]



theorem mem_of {α : Type _} {l : List α} {k : Nat} {x : α} (h : l[k]? = some x) : x ∈ l := by
  obtain ⟨hl, rfl⟩ := List.getElem?_eq_some_iff.1 h
  exact List.getElem_mem hl
theorem less_plain_any (x y : Nat) (hx : nanD x = false ∧ (key x = 0 → x = 0)) (hy : nanD y = false ∧ (key y = 0 → y = 0)) : FS Try.prog 24 [fl x, fl y] nothing [] (fun v H => v = .bool (decide (key x < key y)) ∧ H = []) := by
  have := less_any x y
  rwa [less_plain hx hy] at this


theorem best_any (t : Nat) (a : Option Addr) (n c : Nat) (xs : List Nat) (st dc : Nat) (la : Option Addr) (ln lc : Nat) (l : List Int) (hn : xs.length = n) (hl : l.length = ln) (hpl : Plain xs) (hsm : ln ≤ 1000000) :
    FS Try.prog 23 [.pointer (some ⟨t, 0, none⟩), .slice la ln lc] (rd la ln 1 (l.map intCells)) [blk t [.slice a n c, fl st, fl dc] 79, row a n c 48 1 (xs.map flCells)] (fun r H => (∃ b f, r = .tuple #[.int .i64 b, .bool f] ∧ BestIs n xs l b f) ∧ H = tabL t a n c xs st dc) := by
  refine FS.intro (N := 65) Try.func23 rfl rfl rfl (fun F w0 hF => ?_)
  refine CW.seq ?_
  refine CW.region ?_
  refine OL.q (Y.assign rfl) rfl ?_
  refine OL.q (Y.assign rfl) rfl ?_
  refine OL.nil ?_
  refine EX.seq ?_
  refine CW.seq ?_
  refine CW.region ?_
  refine OL.q (Y.assign rfl) rfl ?_
  refine OL.q (Y.assign rfl) rfl ?_
  refine OL.nil ?_
  refine EX.seq ?_
  refine CW.seq ?_
  refine CW.seq ?_
  refine CW.region ?_
  refine OL.q (Y.move rfl) rfl ?_
  refine OL.q (Y.lenSl Try.underlying28 rfl) rfl ?_
  refine OL.q (Y.move rfl) rfl ?_
  refine OL.nil ?_
  refine EX.seq ?_
  refine CW.block ?_
  refine CW.loop (α := Nat × Int × Bool) ⟨fun x => x.1 ≤ ln ∧ BestIs n xs (l.take x.1) x.2.1 x.2.2, fun x => [(0, .pointer (some ⟨t, 0, none⟩)), (6, .int .i64 x.2.1), (7, .bool x.2.2), (10, .slice la ln lc), (11, .int .i64 ln), (12, .int .i64 x.1)], fun _ => tabL t a n c xs st dc⟩
    (fun x => ln - x.1) (0, 0, false) [0, 1] ⟨Nat.zero_le _, BestIs.nil⟩ ⟨rfl, rfl, rfl, rfl, rfl, rfl, trivial⟩ rfl rfl ?_
  rintro ⟨i, b, f⟩ ⟨hi, hB⟩
  dsimp only at hi hB ⊢
  unfold tabL
  refine CW.seq ?_
  refine CW.region ?_
  refine OL.q (Y.lss rfl rfl) rfl ?_
  refine OL.nil ?_
  refine EX.seq ?_
  refine CW.seq ?_
  refine CW.cond rfl (fun h0 => ?_) (fun h0 => ?_)
  · repeat (first | replace h0 := yes h0 | replace h0 := no h0 | replace h0 := nyes h0 | replace h0 := nno h0)
    obtain ⟨v, hp⟩ : ∃ p, l[i]? = some p := ⟨_, List.getElem?_eq_getElem (by omega)⟩
    refine CW.skip ?_
    refine EX.seq ?_
    refine CW.seq ?_
    refine CW.block ?_
    refine CW.seq ?_
    refine CW.region ?_
    refine OL.q (Y.index Try.underlying28 C3 rfl rfl (Ent.frame (Up.rd _ _ _ _) hF) rfl (by omega)) rfl ?_
    refine OL.q (Y.load T3 rfl (cellsIs_at0 (rd_at (Ent.frame (Up.rd _ _ _ _) hF) (mget intCells hp)) rfl)) rfl ?_
    refine OL.q (Y.assign rfl) rfl ?_
    refine OL.nil ?_
    refine EX.seq ?_
    refine CW.seq ?_
    refine CW.seq ?_
    refine CW.region ?_
    refine OL.q (Y.move rfl) rfl ?_
    refine OL.q (Y.move rfl) rfl ?_
    refine OL.call [0, 1] (has_any t a n c xs st dc v hn) Try.call38 rfl rfl rfl rfl (Ent.nothing _) rfl ?_
    rintro _ _ ⟨rfl, rfl⟩
    refine ⟨rfl, rfl, ?_⟩
    refine OL.q (Y.not rfl) rfl ?_
    refine OL.nil ?_
    refine EX.seq ?_
    refine CW.cond rfl (fun h1 => ?_) (fun h1 => ?_)
    · repeat (first | replace h1 := yes h1 | replace h1 := no h1 | replace h1 := nyes h1 | replace h1 := nno h1)
      refine CW.exit ?_
      refine EX.exitT ?_
      refine EX.exitB ?_
      refine EX.seq ?_
      refine CW.region ?_
      first | refine OL.q (Y.add1 rfl rfl rfl (by omega)) rfl ?_ | refine OL.q (Y.addN rfl rfl (by omega)) rfl ?_ | refine OL.q (Y.add rfl rfl (by omega)) rfl ?_
      refine OL.q (Y.move rfl) rfl ?_
      refine OL.nil ?_
      exact EX.next (i + 1, b, f) [0, 1] (show i + 1 ≤ ln ∧ BestIs n xs (l.take (i + 1)) b f from ⟨by omega, by rw [take_snoc hp]; exact hB.skip h1⟩) (show ln - (i + 1) < ln - i by omega) ⟨rfl, rfl, rfl, rfl, rfl, rfl, trivial⟩ rfl rfl
    · repeat (first | replace h1 := yes h1 | replace h1 := no h1 | replace h1 := nyes h1 | replace h1 := nno h1)
      have hv := h1
      obtain ⟨k, rfl⟩ := Int.eq_ofNat_of_zero_le h1.1
      have hk : k < n := by have := hv.2; omega
      obtain ⟨xv, hxv⟩ : ∃ p, xs[k]? = some p := ⟨_, List.getElem?_eq_getElem (by omega)⟩
      refine CW.skip ?_
      refine EX.seq ?_
      refine CW.seq ?_
      refine CW.seq ?_
      refine CW.drawn [(true, 0), (true, 1), (true, 2), (true, 3), (true, 4), (true, 5), (true, 6), (true, 7), (true, 8), (true, 9), (true, 10), (true, 11), (true, 12), (true, 13), (true, 14), (true, 15), (true, 16), (false, 17), (true, 18)] [] [0, 1] mixed (by kernel_rfl) (by repeat (first | exact PanicOk.body | refine PanicOk.then ?_ | refine PanicOk.block ?_)) (by kernel_rfl) rfl rfl rfl rfl ?_
      refine OL.qt (Y.move rfl) rfl ?_
      refine OL.qt (Y.not rfl) rfl ?_
      refine OL.qt (Y.move rfl) rfl ?_
      refine OL.guard (s := 22) rfl (fun g6_2 => ?_) (fun g6_2 => ?_)
      · have ng6_2 := g6_2
        repeat (first | replace ng6_2 := yes ng6_2 | replace ng6_2 := no ng6_2 | replace ng6_2 := nyes ng6_2 | replace ng6_2 := nno ng6_2)
        refine OL.tno g6_2 rfl rfl rfl ?_
        refine OL.tno g6_2 rfl rfl rfl ?_
        refine OL.tno g6_2 rfl rfl rfl ?_
        refine OL.tno g6_2 rfl rfl rfl ?_
        refine OL.tno g6_2 rfl rfl rfl ?_
        refine OL.tno g6_2 rfl rfl rfl ?_
        refine OL.tno g6_2 rfl rfl rfl ?_
        refine OL.tno g6_2 rfl rfl rfl ?_
        refine OL.tno g6_2 rfl rfl rfl ?_
        refine OL.tno g6_2 rfl rfl rfl ?_
        refine OL.tno g6_2 rfl rfl rfl ?_
        refine OL.tno g6_2 rfl rfl rfl ?_
        refine OL.tno g6_2 rfl rfl rfl ?_
        refine OL.tno g6_2 rfl rfl rfl ?_
        refine OL.no g6_2 rfl rfl rfl ?_
        refine OL.qt (Y.pickT rfl g6_2 rfl) rfl ?_
        refine OL.nil ?_
        refine EX.tail ?_
        refine OL.nil ?_
        refine EX.seq ?_
        refine CW.cond rfl (fun h2 => ?_) (fun h2 => ?_)
        rotate_left
        · repeat (first | replace h2 := yes h2 | replace h2 := no h2 | replace h2 := nyes h2 | replace h2 := nno h2)
          exfalso
          first | omega | contradiction | exact absurd rfl h2 | exact absurd h2 (by simp) | exact absurd h2 (by decide)
        repeat (first | replace h2 := yes h2 | replace h2 := no h2 | replace h2 := nyes h2 | replace h2 := nno h2)
        refine CW.seq ?_
        refine CW.region ?_
        refine OL.q (Y.move rfl) rfl ?_
        refine OL.q (Y.assign rfl) rfl ?_
        refine OL.q (Y.assign rfl) rfl ?_
        refine OL.nil ?_
        refine EX.seq ?_
        refine CW.exit ?_
        refine EX.exitT ?_
        refine EX.exitB ?_
        refine EX.seq ?_
        refine CW.region ?_
        first | refine OL.q (Y.add1 rfl rfl rfl (by omega)) rfl ?_ | refine OL.q (Y.addN rfl rfl (by omega)) rfl ?_ | refine OL.q (Y.add rfl rfl (by omega)) rfl ?_
        refine OL.q (Y.move rfl) rfl ?_
        refine OL.nil ?_
        obtain rfl := ng6_2
        exact EX.next (i + 1, k, true) [0, 1] (show i + 1 ≤ ln ∧ BestIs n xs (l.take (i + 1)) k true from ⟨by omega, by rw [take_snoc hp]; exact hB.first hv⟩) (show ln - (i + 1) < ln - i by omega) ⟨rfl, rfl, rfl, rfl, rfl, rfl, trivial⟩ rfl rfl
      · have ng6_2 := g6_2
        repeat (first | replace ng6_2 := yes ng6_2 | replace ng6_2 := no ng6_2 | replace ng6_2 := nyes ng6_2 | replace ng6_2 := nno ng6_2)
        obtain rfl := ng6_2
        obtain ⟨_, hbv, _⟩ := hB.yes rfl
        obtain ⟨m, rfl⟩ := Int.eq_ofNat_of_zero_le hbv.1
        have hm : m < n := by have := hbv.2; omega
        obtain ⟨xb, hxb⟩ : ∃ p, xs[m]? = some p := ⟨_, List.getElem?_eq_getElem (by omega)⟩
        refine OL.ont g6_2 rfl rfl ?_
        refine OL.qt (Y.move rfl) rfl ?_
        refine OL.ont g6_2 rfl rfl ?_
        refine OL.qt (Y.nilCheck rfl) rfl ?_
        refine OL.ont g6_2 rfl rfl ?_
        refine OL.qt (Y.field L79_0 rfl) rfl ?_
        refine OL.ont g6_2 rfl rfl ?_
        first | refine OL.qt (Y.load T61 rfl (Ent.at 0 rfl (Up.cellIs _ _ _) (blk_cell rfl))) rfl ?_ | refine OL.qt (Y.load T61 rfl (Ent.at 1 rfl (Up.cellIs _ _ _) (blk_cell rfl))) rfl ?_ | refine OL.qt (Y.load T61 rfl (Ent.at 2 rfl (Up.cellIs _ _ _) (blk_cell rfl))) rfl ?_ | refine OL.qt (Y.load T61 rfl (Ent.at 3 rfl (Up.cellIs _ _ _) (blk_cell rfl))) rfl ?_ | refine OL.qt (Y.load T61 rfl (Ent.at 4 rfl (Up.cellIs _ _ _) (blk_cell rfl))) rfl ?_ | refine OL.qt (Y.load T61 rfl (Ent.at 5 rfl (Up.cellIs _ _ _) (blk_cell rfl))) rfl ?_
        refine OL.ont g6_2 rfl rfl ?_
        refine OL.qt (Y.move rfl) rfl ?_
        refine OL.ont g6_2 rfl rfl ?_
        refine OL.qt (Y.index (k := m) Try.underlying61 C48 rfl rfl (Ent.at 1 rfl (Up.rd _ _ _ _) row_rd) rfl hm) rfl ?_
        refine OL.ont g6_2 rfl rfl ?_
        refine OL.qt (Y.load T48 rfl (cellsIs_at0 (rd_at (Ent.at 1 rfl (Up.rd _ _ _ _) row_rd) (mget flCells hxb)) rfl)) rfl ?_
        refine OL.ont g6_2 rfl rfl ?_
        refine OL.qt (Y.move rfl) rfl ?_
        refine OL.ont g6_2 rfl rfl ?_
        refine OL.qt (Y.nilCheck rfl) rfl ?_
        refine OL.ont g6_2 rfl rfl ?_
        refine OL.qt (Y.field L79_0 rfl) rfl ?_
        refine OL.ont g6_2 rfl rfl ?_
        first | refine OL.qt (Y.load T61 rfl (Ent.at 0 rfl (Up.cellIs _ _ _) (blk_cell rfl))) rfl ?_ | refine OL.qt (Y.load T61 rfl (Ent.at 1 rfl (Up.cellIs _ _ _) (blk_cell rfl))) rfl ?_ | refine OL.qt (Y.load T61 rfl (Ent.at 2 rfl (Up.cellIs _ _ _) (blk_cell rfl))) rfl ?_ | refine OL.qt (Y.load T61 rfl (Ent.at 3 rfl (Up.cellIs _ _ _) (blk_cell rfl))) rfl ?_ | refine OL.qt (Y.load T61 rfl (Ent.at 4 rfl (Up.cellIs _ _ _) (blk_cell rfl))) rfl ?_ | refine OL.qt (Y.load T61 rfl (Ent.at 5 rfl (Up.cellIs _ _ _) (blk_cell rfl))) rfl ?_
        refine OL.ont g6_2 rfl rfl ?_
        refine OL.qt (Y.move rfl) rfl ?_
        refine OL.ont g6_2 rfl rfl ?_
        refine OL.qt (Y.index (k := k) Try.underlying61 C48 rfl rfl (Ent.at 1 rfl (Up.rd _ _ _ _) row_rd) rfl hk) rfl ?_
        refine OL.ont g6_2 rfl rfl ?_
        refine OL.qt (Y.load T48 rfl (cellsIs_at0 (rd_at (Ent.at 1 rfl (Up.rd _ _ _ _) row_rd) (mget flCells hxv)) rfl)) rfl ?_
        refine OL.on g6_2 rfl rfl ?_
        refine OL.call [] (less_plain_any xb xv (hpl _ (mem_of hxb)) (hpl _ (mem_of hxv))) Try.call24 rfl rfl rfl rfl (Ent.nothing _) rfl ?_
        rintro _ _ ⟨rfl, rfl⟩
        refine ⟨rfl, rfl, ?_⟩
        refine OL.qt (Y.pickF rfl g6_2 rfl) rfl ?_
        refine OL.nil ?_
        refine EX.tail ?_
        refine OL.nil ?_
        refine EX.seq ?_
        refine CW.cond rfl (fun h2 => ?_) (fun h2 => ?_)
        · repeat (first | replace h2 := yes h2 | replace h2 := no h2 | replace h2 := nyes h2 | replace h2 := nno h2)
          refine CW.seq ?_
          refine CW.region ?_
          refine OL.q (Y.move rfl) rfl ?_
          refine OL.q (Y.assign rfl) rfl ?_
          refine OL.q (Y.assign rfl) rfl ?_
          refine OL.nil ?_
          refine EX.seq ?_
          refine CW.exit ?_
          refine EX.exitT ?_
          refine EX.exitB ?_
          refine EX.seq ?_
          refine CW.region ?_
          first | refine OL.q (Y.add1 rfl rfl rfl (by omega)) rfl ?_ | refine OL.q (Y.addN rfl rfl (by omega)) rfl ?_ | refine OL.q (Y.add rfl rfl (by omega)) rfl ?_
          refine OL.q (Y.move rfl) rfl ?_
          refine OL.nil ?_
          exact EX.next (i + 1, k, true) [0, 1] (show i + 1 ≤ ln ∧ BestIs n xs (l.take (i + 1)) k true from ⟨by omega, by rw [take_snoc hp]; exact hB.turn hv (.inl (by rw [kv_at hxb, kv_at hxv]; exact h2))⟩) (show ln - (i + 1) < ln - i by omega) ⟨rfl, rfl, rfl, rfl, rfl, rfl, trivial⟩ rfl rfl
        · repeat (first | replace h2 := yes h2 | replace h2 := no h2 | replace h2 := nyes h2 | replace h2 := nno h2)
          refine CW.skip ?_
          refine EX.seq ?_
          refine CW.seq ?_
          refine CW.drawn [(true, 0), (true, 1), (true, 2), (true, 3), (true, 4), (true, 5), (true, 6), (true, 7), (true, 8), (true, 9), (true, 10), (true, 11), (true, 12), (true, 13), (true, 14), (true, 15), (true, 16), (true, 17), (false, 18), (true, 19), (true, 20)] [] [0, 1] mixed (by kernel_rfl) (by repeat (first | exact PanicOk.body | refine PanicOk.then ?_ | refine PanicOk.block ?_)) (by kernel_rfl) rfl rfl rfl rfl ?_
          refine OL.qt (Y.move rfl) rfl ?_
          refine OL.qt (Y.move rfl) rfl ?_
          refine OL.qt (Y.lss rfl rfl) rfl ?_
          refine OL.qt (Y.move rfl) rfl ?_
          refine OL.guard (s := 43) rfl (fun g8_3 => ?_) (fun g8_3 => ?_)
          · have ng8_3 := g8_3
            repeat (first | replace ng8_3 := yes ng8_3 | replace ng8_3 := no ng8_3 | replace ng8_3 := nyes ng8_3 | replace ng8_3 := nno ng8_3)
            refine OL.ont g8_3 rfl rfl ?_
            refine OL.qt (Y.move rfl) rfl ?_
            refine OL.ont g8_3 rfl rfl ?_
            refine OL.qt (Y.nilCheck rfl) rfl ?_
            refine OL.ont g8_3 rfl rfl ?_
            refine OL.qt (Y.field L79_0 rfl) rfl ?_
            refine OL.ont g8_3 rfl rfl ?_
            first | refine OL.qt (Y.load T61 rfl (Ent.at 0 rfl (Up.cellIs _ _ _) (blk_cell rfl))) rfl ?_ | refine OL.qt (Y.load T61 rfl (Ent.at 1 rfl (Up.cellIs _ _ _) (blk_cell rfl))) rfl ?_ | refine OL.qt (Y.load T61 rfl (Ent.at 2 rfl (Up.cellIs _ _ _) (blk_cell rfl))) rfl ?_ | refine OL.qt (Y.load T61 rfl (Ent.at 3 rfl (Up.cellIs _ _ _) (blk_cell rfl))) rfl ?_ | refine OL.qt (Y.load T61 rfl (Ent.at 4 rfl (Up.cellIs _ _ _) (blk_cell rfl))) rfl ?_ | refine OL.qt (Y.load T61 rfl (Ent.at 5 rfl (Up.cellIs _ _ _) (blk_cell rfl))) rfl ?_
            refine OL.ont g8_3 rfl rfl ?_
            refine OL.qt (Y.move rfl) rfl ?_
            refine OL.ont g8_3 rfl rfl ?_
            refine OL.qt (Y.index (k := k) Try.underlying61 C48 rfl rfl (Ent.at 1 rfl (Up.rd _ _ _ _) row_rd) rfl hk) rfl ?_
            refine OL.ont g8_3 rfl rfl ?_
            refine OL.qt (Y.load T48 rfl (cellsIs_at0 (rd_at (Ent.at 1 rfl (Up.rd _ _ _ _) row_rd) (mget flCells hxv)) rfl)) rfl ?_
            refine OL.ont g8_3 rfl rfl ?_
            refine OL.qt (Y.move rfl) rfl ?_
            refine OL.ont g8_3 rfl rfl ?_
            refine OL.qt (Y.nilCheck rfl) rfl ?_
            refine OL.ont g8_3 rfl rfl ?_
            refine OL.qt (Y.field L79_0 rfl) rfl ?_
            refine OL.ont g8_3 rfl rfl ?_
            first | refine OL.qt (Y.load T61 rfl (Ent.at 0 rfl (Up.cellIs _ _ _) (blk_cell rfl))) rfl ?_ | refine OL.qt (Y.load T61 rfl (Ent.at 1 rfl (Up.cellIs _ _ _) (blk_cell rfl))) rfl ?_ | refine OL.qt (Y.load T61 rfl (Ent.at 2 rfl (Up.cellIs _ _ _) (blk_cell rfl))) rfl ?_ | refine OL.qt (Y.load T61 rfl (Ent.at 3 rfl (Up.cellIs _ _ _) (blk_cell rfl))) rfl ?_ | refine OL.qt (Y.load T61 rfl (Ent.at 4 rfl (Up.cellIs _ _ _) (blk_cell rfl))) rfl ?_ | refine OL.qt (Y.load T61 rfl (Ent.at 5 rfl (Up.cellIs _ _ _) (blk_cell rfl))) rfl ?_
            refine OL.ont g8_3 rfl rfl ?_
            refine OL.qt (Y.move rfl) rfl ?_
            refine OL.ont g8_3 rfl rfl ?_
            refine OL.qt (Y.index (k := m) Try.underlying61 C48 rfl rfl (Ent.at 1 rfl (Up.rd _ _ _ _) row_rd) rfl hm) rfl ?_
            refine OL.ont g8_3 rfl rfl ?_
            refine OL.qt (Y.load T48 rfl (cellsIs_at0 (rd_at (Ent.at 1 rfl (Up.rd _ _ _ _) row_rd) (mget flCells hxb)) rfl)) rfl ?_
            refine OL.on g8_3 rfl rfl ?_
            refine OL.call [] (less_plain_any xv xb (hpl _ (mem_of hxv)) (hpl _ (mem_of hxb))) Try.call24 rfl rfl rfl rfl (Ent.nothing _) rfl ?_
            rintro _ _ ⟨rfl, rfl⟩
            refine ⟨rfl, rfl, ?_⟩
            refine OL.ont g8_3 rfl rfl ?_
            refine OL.qt (Y.not rfl) rfl ?_
            refine OL.qt (Y.pickT rfl g8_3 rfl) rfl ?_
            refine OL.nil ?_
            refine EX.tail ?_
            refine OL.nil ?_
            refine EX.seq ?_
            refine CW.cond rfl (fun h3 => ?_) (fun h3 => ?_)
            · repeat (first | replace h3 := yes h3 | replace h3 := no h3 | replace h3 := nyes h3 | replace h3 := nno h3)
              refine CW.region ?_
              refine OL.q (Y.move rfl) rfl ?_
              refine OL.q (Y.assign rfl) rfl ?_
              refine OL.nil ?_
              refine EX.norB ?_
              refine EX.seq ?_
              refine CW.region ?_
              first | refine OL.q (Y.add1 rfl rfl rfl (by omega)) rfl ?_ | refine OL.q (Y.addN rfl rfl (by omega)) rfl ?_ | refine OL.q (Y.add rfl rfl (by omega)) rfl ?_
              refine OL.q (Y.move rfl) rfl ?_
              refine OL.nil ?_
              exact EX.next (i + 1, k, true) [0, 1] (show i + 1 ≤ ln ∧ BestIs n xs (l.take (i + 1)) k true from ⟨by omega, by rw [take_snoc hp]; exact hB.turn hv (.inr (by rw [kv_at hxb, kv_at hxv]; omega))⟩) (show ln - (i + 1) < ln - i by omega) ⟨rfl, rfl, rfl, rfl, rfl, rfl, trivial⟩ rfl rfl
            · repeat (first | replace h3 := yes h3 | replace h3 := no h3 | replace h3 := nyes h3 | replace h3 := nno h3)
              refine CW.skip ?_
              refine EX.norB ?_
              refine EX.seq ?_
              refine CW.region ?_
              first | refine OL.q (Y.add1 rfl rfl rfl (by omega)) rfl ?_ | refine OL.q (Y.addN rfl rfl (by omega)) rfl ?_ | refine OL.q (Y.add rfl rfl (by omega)) rfl ?_
              refine OL.q (Y.move rfl) rfl ?_
              refine OL.nil ?_
              exact EX.next (i + 1, m, true) [0, 1] (show i + 1 ≤ ln ∧ BestIs n xs (l.take (i + 1)) m true from ⟨by omega, by rw [take_snoc hp]; exact hB.stay (by rw [kv_at hxb, kv_at hxv]; omega)⟩) (show ln - (i + 1) < ln - i by omega) ⟨rfl, rfl, rfl, rfl, rfl, rfl, trivial⟩ rfl rfl
          · have ng8_3 := g8_3
            repeat (first | replace ng8_3 := yes ng8_3 | replace ng8_3 := no ng8_3 | replace ng8_3 := nyes ng8_3 | replace ng8_3 := nno ng8_3)
            refine OL.tno g8_3 rfl rfl rfl ?_
            refine OL.tno g8_3 rfl rfl rfl ?_
            refine OL.tno g8_3 rfl rfl rfl ?_
            refine OL.tno g8_3 rfl rfl rfl ?_
            refine OL.tno g8_3 rfl rfl rfl ?_
            refine OL.tno g8_3 rfl rfl rfl ?_
            refine OL.tno g8_3 rfl rfl rfl ?_
            refine OL.tno g8_3 rfl rfl rfl ?_
            refine OL.tno g8_3 rfl rfl rfl ?_
            refine OL.tno g8_3 rfl rfl rfl ?_
            refine OL.tno g8_3 rfl rfl rfl ?_
            refine OL.tno g8_3 rfl rfl rfl ?_
            refine OL.tno g8_3 rfl rfl rfl ?_
            refine OL.tno g8_3 rfl rfl rfl ?_
            refine OL.no g8_3 rfl rfl rfl ?_
            refine OL.tno g8_3 rfl rfl rfl ?_
            refine OL.qt (Y.pickF rfl g8_3 rfl) rfl ?_
            refine OL.nil ?_
            refine EX.tail ?_
            refine OL.nil ?_
            refine EX.seq ?_
            refine CW.cond rfl (fun h3 => ?_) (fun h3 => ?_)
            · repeat (first | replace h3 := yes h3 | replace h3 := no h3 | replace h3 := nyes h3 | replace h3 := nno h3)
              exfalso
              first | omega | contradiction | exact absurd rfl h3 | exact absurd h3 (by simp) | exact absurd h3 (by decide)
            repeat (first | replace h3 := yes h3 | replace h3 := no h3 | replace h3 := nyes h3 | replace h3 := nno h3)
            refine CW.skip ?_
            refine EX.norB ?_
            refine EX.seq ?_
            refine CW.region ?_
            first | refine OL.q (Y.add1 rfl rfl rfl (by omega)) rfl ?_ | refine OL.q (Y.addN rfl rfl (by omega)) rfl ?_ | refine OL.q (Y.add rfl rfl (by omega)) rfl ?_
            refine OL.q (Y.move rfl) rfl ?_
            refine OL.nil ?_
            exact EX.next (i + 1, m, true) [0, 1] (show i + 1 ≤ ln ∧ BestIs n xs (l.take (i + 1)) m true from ⟨by omega, by rw [take_snoc hp]; exact hB.stay (by rw [kv_at hxb, kv_at hxv]; omega)⟩) (show ln - (i + 1) < ln - i by omega) ⟨rfl, rfl, rfl, rfl, rfl, rfl, trivial⟩ rfl rfl
  · repeat (first | replace h0 := yes h0 | replace h0 := no h0 | replace h0 := nyes h0 | replace h0 := nno h0)
    refine CW.exit ?_
    refine EX.exitT ?_
    refine EX.exitT ?_
    refine EX.exitB ?_
    refine EX.seq ?_
    refine CW.seq ?_
    refine CW.region ?_
    refine OL.q (Y.move rfl) rfl ?_
    refine OL.q (Y.move rfl) rfl ?_
    refine OL.q (Y.assign rfl) rfl ?_
    refine OL.q (Y.assign rfl) rfl ?_
    refine OL.nil ?_
    refine EX.seq ?_
    refine CW.ret ?_
    have hil : i = ln := by omega
    subst hil
    rw [List.take_of_length_le (by omega)] at hB
    exact EX.fin2 [0, 1] rfl rfl rfl rfl ⟨⟨_, _, rfl, hB⟩, rfl⟩
end Go.Proofs.Ythnejajlkijobaa
