/- The statement ScoreBest: its example, and any lists. -/
import Derived.Test.YthnejajlkijobaaScore
namespace Go.Proofs.Ythnejajlkijobaa
open Go.Sx

theorem T49 : Ty1 Try.prog 49 (.int .u64 0) := ⟨Try.isAgg49, Try.sizeOf49, Try.zeroValue49⟩
theorem C49 : TyC Try.prog 49 1 [.int .u64 0] := T49.c rfl
theorem E3 : Elt Try.prog 3 1 8 [.int .i64 0] := ⟨⟨Try.t3, by kernel_rfl, rfl, rfl, _, rfl, rfl⟩, rfl, by decide⟩

theorem lnan_any  :
    FS Try.prog 37 [] (nothing) [] (fun v H => v = fl nan1 ∧ H = []) := by
  refine FS.intro (N := 2) Try.func37 rfl rfl rfl (fun F w0 hF => ?_)
  refine CW.seq ?_
  refine CW.region ?_
  refine OL.q (Y.assign rfl) rfl ?_
  refine OL.nil ?_
  refine EX.seq ?_
  refine CW.seq ?_
  refine CW.region ?_
  refine OL.call [] (of_any _) Try.call22 rfl rfl rfl rfl (Ent.nothing _) rfl ?_
  rintro _ _ ⟨rfl, rfl⟩
  refine ⟨rfl, rfl, ?_⟩
  refine OL.q (Y.assign rfl) rfl ?_
  refine OL.nil ?_
  refine EX.seq ?_
  refine CW.ret ?_
  exact EX.fin1 [] rfl rfl rfl ⟨rfl, rfl⟩


theorem less_is {x y : Nat} {b : Bool} (h : lessF x y = b) : FS Try.prog 24 [fl x, fl y] nothing [] (fun v H => v = .bool b ∧ H = []) := h ▸ less_any x y
theorem decay_half : decayF 4602678819172646912 = 4602678819172646912 := by decide +kernel
theorem new_half (n : Int) (m : Nat) (hm : m ≤ 1048576) (hnm : (0 ≤ n ∧ n = m) ∨ (n < 0 ∧ m = 0)) : FS Try.prog 20 [.int .i64 n, fl 4602678819172646912] nothing []
    (fun v H => ∃ t a, v = .pointer (some ⟨t, 0, none⟩) ∧ H = tabL t a m m (List.replicate m 0) one1 4602678819172646912) := by
  have := new_any n m 4602678819172646912 hm hnm
  rwa [decay_half] at this
theorem of_is (n : Int) (m : Nat) (h : n.toNat = m) : FS Try.prog 22 [.int .u64 n] nothing [] (fun v H => v = fl m ∧ H = []) := h ▸ of_any n


set_option maxRecDepth 10000 in
theorem speaks_any  :
    FS Try.prog 19 [] (nothing) [] (fun v H => v = .bool true ∧ H = []) := by
  refine FS.intro (N := 21) Try.func19 rfl rfl rfl (fun F w0 hF => ?_)
  refine CW.seq ?_
  refine CW.region ?_
  refine OL.q (Y.assign rfl) rfl ?_
  refine OL.nil ?_
  refine EX.seq ?_
  refine CW.seq ?_
  refine CW.region ?_
  refine OL.call [] (of_is 18442240474082181120 minf (by decide +kernel)) Try.call22 rfl rfl rfl rfl (Ent.nothing _) rfl ?_
  rintro _ _ ⟨rfl, rfl⟩
  refine ⟨rfl, rfl, ?_⟩
  refine OL.q (Y.assign rfl) rfl ?_
  refine OL.nil ?_
  refine EX.seq ?_
  refine CW.seq ?_
  refine CW.region ?_
  refine OL.call [] (lnan_any) Try.call37 rfl rfl rfl rfl (Ent.nothing _) rfl ?_
  rintro _ _ ⟨rfl, rfl⟩
  refine ⟨rfl, rfl, ?_⟩
  refine OL.q (Y.move rfl) rfl ?_
  refine OL.call [] (less_is (show lessF nan1 minf = true by decide +kernel)) Try.call24 rfl rfl rfl rfl (Ent.nothing _) rfl ?_
  rintro _ _ ⟨rfl, rfl⟩
  refine ⟨rfl, rfl, ?_⟩
  refine OL.q (Y.move rfl) rfl ?_
  refine OL.guard (s := 6) rfl (fun g2_3 => ?_) (fun g2_3 => ?_)
  · have ng2_3 := g2_3
    repeat (first | replace ng2_3 := yes ng2_3 | replace ng2_3 := no ng2_3 | replace ng2_3 := nyes ng2_3 | replace ng2_3 := nno ng2_3)
    refine OL.on g2_3 rfl rfl ?_
    refine OL.q (Y.move rfl) rfl ?_
    refine OL.on g2_3 rfl rfl ?_
    refine OL.call [] (lnan_any) Try.call37 rfl rfl rfl rfl (Ent.nothing _) rfl ?_
    rintro _ _ ⟨rfl, rfl⟩
    refine ⟨rfl, rfl, ?_⟩
    refine OL.on g2_3 rfl rfl ?_
    refine OL.call [] (less_is (show lessF minf nan1 = false by decide +kernel)) Try.call24 rfl rfl rfl rfl (Ent.nothing _) rfl ?_
    rintro _ _ ⟨rfl, rfl⟩
    refine ⟨rfl, rfl, ?_⟩
    refine OL.on g2_3 rfl rfl ?_
    refine OL.q (Y.not rfl) rfl ?_
    refine OL.q (Y.pickT rfl g2_3 rfl) rfl ?_
    refine OL.q (Y.move rfl) rfl ?_
    refine OL.guard (s := 12) rfl (fun g2_9 => ?_) (fun g2_9 => ?_)
    · have ng2_9 := g2_9
      repeat (first | replace ng2_9 := yes ng2_9 | replace ng2_9 := no ng2_9 | replace ng2_9 := nyes ng2_9 | replace ng2_9 := nno ng2_9)
      refine OL.on g2_9 rfl rfl ?_
      refine OL.q (Y.move rfl) rfl ?_
      refine OL.on g2_9 rfl rfl ?_
      refine OL.call [] (less_is (show lessF minf 0 = true by decide +kernel)) Try.call24 rfl rfl rfl rfl (Ent.nothing _) rfl ?_
      rintro _ _ ⟨rfl, rfl⟩
      refine ⟨rfl, rfl, ?_⟩
      refine OL.q (Y.pickT rfl g2_9 rfl) rfl ?_
      refine OL.q (Y.move rfl) rfl ?_
      refine OL.guard (s := 16) rfl (fun g2_13 => ?_) (fun g2_13 => ?_)
      · have ng2_13 := g2_13
        repeat (first | replace ng2_13 := yes ng2_13 | replace ng2_13 := no ng2_13 | replace ng2_13 := nyes ng2_13 | replace ng2_13 := nno ng2_13)
        refine OL.on g2_13 rfl rfl ?_
        refine OL.call [] (new_half 1 1 (by decide) (.inl ⟨by decide, rfl⟩)) Try.call20 rfl rfl rfl rfl (Ent.nothing _) rfl ?_
        rintro _ _ ⟨t, a, rfl, rfl⟩
        refine ⟨rfl, rfl, ?_⟩
        refine OL.on g2_13 rfl rfl ?_
        refine OL.call [0, 1] (step_any t a 1 1 (List.replicate 1 0) one1 4602678819172646912) Try.call33 rfl rfl rfl rfl (Ent.nothing _) rfl ?_
        rintro _ _ ⟨rfl, rfl⟩
        refine ⟨rfl, rfl, ?_⟩
        refine OL.on g2_13 rfl rfl ?_
        refine OL.q (Y.eqlF rfl rfl) rfl ?_
        refine OL.q (Y.pickT rfl g2_13 rfl) rfl ?_
        refine OL.q (Y.assign rfl) rfl ?_
        refine OL.nil ?_
        refine EX.seq ?_
        refine CW.ret ?_
        exact EX.fin1 [] rfl rfl rfl ⟨congrArg Value.bool (show decide (ford one1 one1 = some .eq) = true by decide +kernel), rfl⟩
      · have ng2_13 := g2_13
        repeat (first | replace ng2_13 := yes ng2_13 | replace ng2_13 := no ng2_13 | replace ng2_13 := nyes ng2_13 | replace ng2_13 := nno ng2_13)
        exfalso
        first | omega | contradiction | exact absurd rfl ng2_13 | exact absurd ng2_13 (by simp) | exact absurd ng2_13 (by decide)
    · have ng2_9 := g2_9
      repeat (first | replace ng2_9 := yes ng2_9 | replace ng2_9 := no ng2_9 | replace ng2_9 := nyes ng2_9 | replace ng2_9 := nno ng2_9)
      exfalso
      first | omega | contradiction | exact absurd rfl ng2_9 | exact absurd ng2_9 (by simp) | exact absurd ng2_9 (by decide)
  · have ng2_3 := g2_3
    repeat (first | replace ng2_3 := yes ng2_3 | replace ng2_3 := no ng2_3 | replace ng2_3 := nyes ng2_3 | replace ng2_3 := nno ng2_3)
    exfalso
    first | omega | contradiction | exact absurd rfl ng2_3 | exact absurd ng2_3 (by simp) | exact absurd ng2_3 (by decide)


def anyV (n : Nat) (l : List Int) : Bool := l.any fun v => decide (okV n v)
theorem any_snoc (n : Nat) (l : List Int) (v : Int) : anyV n (l ++ [v]) = (anyV n l || decide (okV n v)) := by simp [anyV]
theorem BestIs.any {n : Nat} {xs : List Nat} {l : List Int} {b : Int} {f : Bool} (h : BestIs n xs l b f) : f = anyV n l := by
  cases f with
  | false =>
    refine ((List.any_eq_false).2 fun v hv => ?_).symm
    have := (h.no rfl).2 v hv
    simp [this]
  | true => exact ((List.any_eq_true).2 ⟨b, (h.yes rfl).1, by simp [(h.yes rfl).2.1]⟩).symm
theorem BestIs.more {n : Nat} {xs : List Nat} {l m : List Int} {b b' : Int} {f' : Bool} (h : BestIs n xs l b true) (h' : BestIs n xs (l ++ m) b' f') : f' = true ∧ okV n b' ∧ kv xs b ≤ kv xs b' := by
  have hy := h.yes rfl
  cases f' with
  | false => exact absurd hy.2.1 ((h'.no rfl).2 b (List.mem_append_left _ hy.1))
  | true => exact ⟨rfl, (h'.yes rfl).2.1, ((h'.yes rfl).2.2 b (List.mem_append_left _ hy.1) hy.2.1).1⟩


set_option maxRecDepth 10000 in
theorem sbest_any (sa la ma : Option Addr) (sn sc ln lc mn mc : Nat) (bits l m : List Int) (hs : bits.length = sn) (hl : l.length = ln) (hm : m.length = mn) :
    FS Try.prog 4 [.slice sa sn sc, .slice la ln lc, .slice ma mn mc] (fun h => rd sa sn 1 (bits.map u64Cells) h ∧ rd la ln 1 (l.map intCells) h ∧ rd ma mn 1 (m.map intCells) h) [] (fun v H => v = .bool true ∧ H = []) := by
  refine FS.intro (N := 137) Try.func4 rfl rfl rfl (fun F w0 hF => ?_)
  refine CW.seq ?_
  refine CW.region ?_
  refine OL.q (Y.assign rfl) rfl ?_
  refine OL.nil ?_
  refine EX.seq ?_
  refine CW.seq ?_
  refine CW.seq ?_
  refine CW.region ?_
  refine OL.call [] (speaks_any) Try.call19 rfl rfl rfl rfl (Ent.nothing _) rfl ?_
  rintro _ _ ⟨rfl, rfl⟩
  refine ⟨rfl, rfl, ?_⟩
  refine OL.q (Y.not rfl) rfl ?_
  refine OL.nil ?_
  refine EX.seq ?_
  refine CW.cond rfl (fun h0 => ?_) (fun h0 => ?_)
  · repeat (first | replace h0 := yes h0 | replace h0 := no h0 | replace h0 := nyes h0 | replace h0 := nno h0)
    exfalso
    contradiction
  repeat (first | replace h0 := yes h0 | replace h0 := no h0 | replace h0 := nyes h0 | replace h0 := nno h0)
  refine CW.skip ?_
  refine EX.seq ?_
  refine CW.seq ?_
  refine CW.seq ?_
  refine CW.region ?_
  refine OL.q (Y.move rfl) rfl ?_
  refine OL.q (Y.lenSl Try.underlying45 rfl) rfl ?_
  refine OL.q (Y.gtr rfl rfl) rfl ?_
  refine OL.q (Y.move rfl) rfl ?_
  refine OL.guard (s := 25) rfl (fun g3_3 => ?_) (fun g3_3 => ?_)
  · have ng3_3 := g3_3
    repeat (first | replace ng3_3 := yes ng3_3 | replace ng3_3 := no ng3_3 | replace ng3_3 := nyes ng3_3 | replace ng3_3 := nno ng3_3)
    refine OL.no g3_3 rfl rfl rfl ?_
    refine OL.no g3_3 rfl rfl rfl ?_
    refine OL.no g3_3 rfl rfl rfl ?_
    refine OL.q (Y.pickT rfl g3_3 rfl) rfl ?_
    refine OL.q (Y.move rfl) rfl ?_
    refine OL.guard (s := 30) rfl (fun g3_8 => ?_) (fun g3_8 => ?_)
    · have ng3_8 := g3_8
      repeat (first | replace ng3_8 := yes ng3_8 | replace ng3_8 := no ng3_8 | replace ng3_8 := nyes ng3_8 | replace ng3_8 := nno ng3_8)
      refine OL.no g3_8 rfl rfl rfl ?_
      refine OL.no g3_8 rfl rfl rfl ?_
      refine OL.no g3_8 rfl rfl rfl ?_
      refine OL.q (Y.pickT rfl g3_8 rfl) rfl ?_
      refine OL.nil ?_
      refine EX.seq ?_
      refine CW.cond rfl (fun h1 => ?_) (fun h1 => ?_)
      rotate_left
      · repeat (first | replace h1 := yes h1 | replace h1 := no h1 | replace h1 := nyes h1 | replace h1 := nno h1)
        exfalso
        first | omega | contradiction | exact absurd rfl h1 | exact absurd h1 (by simp) | exact absurd h1 (by decide)
      repeat (first | replace h1 := yes h1 | replace h1 := no h1 | replace h1 := nyes h1 | replace h1 := nno h1)
      refine CW.seq ?_
      refine CW.region ?_
      refine OL.q (Y.assign rfl) rfl ?_
      refine OL.nil ?_
      refine EX.seq ?_
      refine CW.ret ?_
      refine EX.retT ?_
      exact EX.fin1 [] rfl rfl rfl ⟨rfl, rfl⟩
    · have ng3_8 := g3_8
      repeat (first | replace ng3_8 := yes ng3_8 | replace ng3_8 := no ng3_8 | replace ng3_8 := nyes ng3_8 | replace ng3_8 := nno ng3_8)
      refine OL.on g3_8 rfl rfl ?_
      refine OL.q (Y.move rfl) rfl ?_
      refine OL.on g3_8 rfl rfl ?_
      refine OL.q (Y.lenSl Try.underlying28 rfl) rfl ?_
      refine OL.on g3_8 rfl rfl ?_
      refine OL.q (Y.gtr rfl rfl) rfl ?_
      refine OL.q (Y.pickF rfl g3_8 rfl) rfl ?_
      refine OL.nil ?_
      refine EX.seq ?_
      refine CW.cond rfl (fun h1 => ?_) (fun h1 => ?_)
      rotate_left
      · repeat (first | replace h1 := yes h1 | replace h1 := no h1 | replace h1 := nyes h1 | replace h1 := nno h1)
        exfalso
        first | omega | contradiction | exact absurd rfl h1 | exact absurd h1 (by simp) | exact absurd h1 (by decide)
      repeat (first | replace h1 := yes h1 | replace h1 := no h1 | replace h1 := nyes h1 | replace h1 := nno h1)
      refine CW.seq ?_
      refine CW.region ?_
      refine OL.q (Y.assign rfl) rfl ?_
      refine OL.nil ?_
      refine EX.seq ?_
      refine CW.ret ?_
      refine EX.retT ?_
      exact EX.fin1 [] rfl rfl rfl ⟨rfl, rfl⟩
  · have ng3_3 := g3_3
    repeat (first | replace ng3_3 := yes ng3_3 | replace ng3_3 := no ng3_3 | replace ng3_3 := nyes ng3_3 | replace ng3_3 := nno ng3_3)
    refine OL.on g3_3 rfl rfl ?_
    refine OL.q (Y.move rfl) rfl ?_
    refine OL.on g3_3 rfl rfl ?_
    refine OL.q (Y.lenSl Try.underlying28 rfl) rfl ?_
    refine OL.on g3_3 rfl rfl ?_
    refine OL.q (Y.gtr rfl rfl) rfl ?_
    refine OL.q (Y.pickF rfl g3_3 rfl) rfl ?_
    refine OL.q (Y.move rfl) rfl ?_
    refine OL.guard (s := 30) rfl (fun g3_8 => ?_) (fun g3_8 => ?_)
    · have ng3_8 := g3_8
      repeat (first | replace ng3_8 := yes ng3_8 | replace ng3_8 := no ng3_8 | replace ng3_8 := nyes ng3_8 | replace ng3_8 := nno ng3_8)
      refine OL.no g3_8 rfl rfl rfl ?_
      refine OL.no g3_8 rfl rfl rfl ?_
      refine OL.no g3_8 rfl rfl rfl ?_
      refine OL.q (Y.pickT rfl g3_8 rfl) rfl ?_
      refine OL.nil ?_
      refine EX.seq ?_
      refine CW.cond rfl (fun h1 => ?_) (fun h1 => ?_)
      rotate_left
      · repeat (first | replace h1 := yes h1 | replace h1 := no h1 | replace h1 := nyes h1 | replace h1 := nno h1)
        exfalso
        first | omega | contradiction | exact absurd rfl h1 | exact absurd h1 (by simp) | exact absurd h1 (by decide)
      repeat (first | replace h1 := yes h1 | replace h1 := no h1 | replace h1 := nyes h1 | replace h1 := nno h1)
      refine CW.seq ?_
      refine CW.region ?_
      refine OL.q (Y.assign rfl) rfl ?_
      refine OL.nil ?_
      refine EX.seq ?_
      refine CW.ret ?_
      refine EX.retT ?_
      exact EX.fin1 [] rfl rfl rfl ⟨rfl, rfl⟩
    · have ng3_8 := g3_8
      repeat (first | replace ng3_8 := yes ng3_8 | replace ng3_8 := no ng3_8 | replace ng3_8 := nyes ng3_8 | replace ng3_8 := nno ng3_8)
      refine OL.on g3_8 rfl rfl ?_
      refine OL.q (Y.move rfl) rfl ?_
      refine OL.on g3_8 rfl rfl ?_
      refine OL.q (Y.lenSl Try.underlying28 rfl) rfl ?_
      refine OL.on g3_8 rfl rfl ?_
      refine OL.q (Y.gtr rfl rfl) rfl ?_
      refine OL.q (Y.pickF rfl g3_8 rfl) rfl ?_
      refine OL.nil ?_
      refine EX.seq ?_
      refine CW.cond rfl (fun h1 => ?_) (fun h1 => ?_)
      · repeat (first | replace h1 := yes h1 | replace h1 := no h1 | replace h1 := nyes h1 | replace h1 := nno h1)
        refine CW.seq ?_
        refine CW.region ?_
        refine OL.q (Y.assign rfl) rfl ?_
        refine OL.nil ?_
        refine EX.seq ?_
        refine CW.ret ?_
        refine EX.retT ?_
        exact EX.fin1 [] rfl rfl rfl ⟨rfl, rfl⟩
      · repeat (first | replace h1 := yes h1 | replace h1 := no h1 | replace h1 := nyes h1 | replace h1 := nno h1)
        refine CW.skip ?_
        refine EX.seq ?_
        refine CW.seq ?_
        refine CW.region ?_
        refine OL.q (Y.move rfl) rfl ?_
        refine OL.q (Y.lenSl Try.underlying45 rfl) rfl ?_
        refine OL.call [] (new_half sn sn (by omega) (.inl ⟨by omega, rfl⟩)) Try.call20 rfl rfl rfl rfl (Ent.nothing _) rfl ?_
        rintro _ _ ⟨t, a, rfl, rfl⟩
        refine ⟨rfl, rfl, ?_⟩
        refine OL.q (Y.assign rfl) rfl ?_
        refine OL.nil ?_
        refine EX.seq ?_
        refine CW.seq ?_
        refine CW.seq ?_
        refine CW.region ?_
        refine OL.q (Y.move rfl) rfl ?_
        refine OL.q (Y.lenSl Try.underlying45 rfl) rfl ?_
        refine OL.q (Y.move rfl) rfl ?_
        refine OL.nil ?_
        refine EX.seq ?_
        refine CW.block ?_
        refine CW.loop (α := Nat × List Nat) ⟨fun x => x.1 ≤ sn ∧ x.2.length = sn ∧ Plain x.2, fun x => [(0, .slice sa sn sc), (1, .slice la ln lc), (2, .slice ma mn mc), (7, .pointer (some ⟨t, 0, none⟩)), (38, .slice sa sn sc), (39, .int .i64 sn), (40, .int .i64 x.1)], fun x => tabL t a sn sn x.2 one1 4602678819172646912⟩
          (fun x => sn - x.1) (0, List.replicate sn 0) [0, 1] ⟨Nat.zero_le _, by simp, plain_zero _⟩ ⟨rfl, rfl, rfl, rfl, rfl, rfl, rfl, trivial⟩ rfl rfl ?_
        rintro ⟨i, xs⟩ ⟨hi, hxs, hpl⟩
        dsimp only at hi hxs hpl ⊢
        unfold tabL
        refine CW.seq ?_
        refine CW.region ?_
        refine OL.q (Y.lss rfl rfl) rfl ?_
        refine OL.nil ?_
        refine EX.seq ?_
        refine CW.seq ?_
        refine CW.cond rfl (fun h2 => ?_) (fun h2 => ?_)
        · repeat (first | replace h2 := yes h2 | replace h2 := no h2 | replace h2 := nyes h2 | replace h2 := nno h2)
          obtain ⟨b, hb⟩ : ∃ p, bits[i]? = some p := ⟨_, List.getElem?_eq_getElem (by omega)⟩
          have hoi : okV sn i := ⟨by omega, by omega⟩
          refine CW.skip ?_
          refine EX.seq ?_
          refine CW.seq ?_
          refine CW.block ?_
          refine CW.seq ?_
          refine CW.region ?_
          refine OL.q (Y.move rfl) rfl ?_
          refine OL.q (Y.index Try.underlying45 C49 rfl rfl (Ent.frame (Up.rd _ _ _ _) (fun h hs => (hF h hs).1)) rfl (by omega)) rfl ?_
          refine OL.q (Y.load T49 rfl (cellsIs_at0 (rd_at (Ent.frame (Up.rd _ _ _ _) (fun h hs => (hF h hs).1)) (mget u64Cells hb)) rfl)) rfl ?_
          refine OL.q (Y.assign rfl) rfl ?_
          refine OL.q (Y.assign rfl) rfl ?_
          refine OL.nil ?_
          refine EX.seq ?_
          refine CW.seq ?_
          refine CW.region ?_
          refine OL.q (Y.move rfl) rfl ?_
          refine OL.q (Y.move rfl) rfl ?_
          refine OL.q (Y.move rfl) rfl ?_
          refine OL.call [] (of_any b) Try.call22 rfl rfl rfl rfl (Ent.nothing _) rfl ?_
          rintro _ _ ⟨rfl, rfl⟩
          refine ⟨rfl, rfl, ?_⟩
          refine OL.call [0, 1] (set_any t a sn sn xs one1 4602678819172646912 i b.toNat hxs) Try.call21 rfl rfl rfl rfl (Ent.nothing _) rfl ?_
          rw [if_pos hoi, decide_eq_true hoi]
          rintro _ _ ⟨rfl, rfl⟩
          refine ⟨rfl, rfl, ?_⟩
          refine OL.q (Y.not rfl) rfl ?_
          refine OL.nil ?_
          refine EX.seq ?_
          refine CW.cond rfl (fun h3 => ?_) (fun h3 => ?_)
          · repeat (first | replace h3 := yes h3 | replace h3 := no h3 | replace h3 := nyes h3 | replace h3 := nno h3)
            exfalso
            contradiction
          repeat (first | replace h3 := yes h3 | replace h3 := no h3 | replace h3 := nyes h3 | replace h3 := nno h3)
          refine CW.skip ?_
          refine EX.norB ?_
          refine EX.seq ?_
          refine CW.region ?_
          first | refine OL.q (Y.add1 rfl rfl rfl (by omega)) rfl ?_ | refine OL.q (Y.addN rfl rfl (by omega)) rfl ?_ | refine OL.q (Y.add rfl rfl (by omega)) rfl ?_
          refine OL.q (Y.move rfl) rfl ?_
          refine OL.nil ?_
          exact EX.next (i + 1, xs.set (i : Int).toNat (keptF b.toNat)) [0, 1] ⟨show i + 1 ≤ sn by omega, by simpa using hxs, plain_set hpl _ _⟩ (show sn - (i + 1) < sn - i by omega) ⟨rfl, rfl, rfl, rfl, rfl, rfl, rfl, trivial⟩ rfl rfl
        · repeat (first | replace h2 := yes h2 | replace h2 := no h2 | replace h2 := nyes h2 | replace h2 := nno h2)
          refine CW.exit ?_
          refine EX.exitT ?_
          refine EX.exitT ?_
          refine EX.exitB ?_
          refine EX.seq ?_
          refine CW.seq ?_
          refine CW.region ?_
          refine OL.q (Y.move rfl) rfl ?_
          refine OL.q (Y.move rfl) rfl ?_
          refine OL.call [0, 1] (best_any t a sn sn xs one1 4602678819172646912 la (ln) lc (l) hxs (hl) hpl (by omega)) Try.call23 rfl rfl rfl rfl (Ent.frame (Up.rd _ _ _ _) (fun h hs => (hF h hs).2.1)) rfl ?_
          rintro _ _ ⟨⟨b, f, rfl, hB⟩, rfl⟩
          refine ⟨rfl, rfl, ?_⟩
          refine OL.q (Y.move rfl) rfl ?_
          refine OL.q (Y.extract rfl rfl) rfl ?_
          refine OL.q (Y.extract rfl rfl) rfl ?_
          refine OL.q (Y.assign rfl) rfl ?_
          refine OL.q (Y.assign rfl) rfl ?_
          refine OL.nil ?_
          refine EX.seq ?_
          refine CW.seq ?_
          refine CW.region ?_
          refine OL.q (Y.assign rfl) rfl ?_
          refine OL.nil ?_
          refine EX.seq ?_
          refine CW.seq ?_
          refine CW.region ?_
          refine OL.buildSlice ([]) Try.underlying28 C3 (by decide) rfl (by decide) rfl rfl rfl (fun b58 => ⟨rfl, rfl, ?_⟩)
          refine OL.q (Y.assign rfl) rfl ?_
          refine OL.nil ?_
          refine EX.seq ?_
          refine CW.seq ?_
          refine CW.seq ?_
          refine CW.region ?_
          refine OL.q (Y.move rfl) rfl ?_
          refine OL.q (Y.lenSl Try.underlying28 rfl) rfl ?_
          refine OL.q (Y.move rfl) rfl ?_
          refine OL.nil ?_
          refine EX.seq ?_
          refine CW.block ?_
          refine CW.loop (α := Nat × Option Addr × Nat × Nat) ⟨fun x => x.1 ≤ ln ∧ x.2.2.1 = x.1, fun x => [(0, .slice sa sn sc), (1, .slice la ln lc), (2, .slice ma mn mc), (7, .pointer (some ⟨t, 0, none⟩)), (10, .int .i64 b), (11, .bool f), (12, .bool (anyV sn (l.take x.1))), (13, .slice x.2.1 x.2.2.1 x.2.2.2), (59, .slice la ln lc), (60, .int .i64 ln), (61, .int .i64 x.1)],
              fun x => tabL t a sn sn xs one1 4602678819172646912 ++ [row x.2.1 x.2.2.1 x.2.2.2 3 1 ((l.take x.1).reverse.map intCells)]⟩
            (fun x => ln - x.1) (0, some ⟨b58, 0, none⟩, 0, 0) [0, 1, 2] ⟨Nat.zero_le _, rfl⟩ ⟨rfl, rfl, rfl, rfl, rfl, rfl, rfl, rfl, rfl, rfl, rfl, trivial⟩ rfl rfl ?_
          rintro ⟨j, ba, bn, bc⟩ ⟨hj, hbn⟩
          dsimp only at hj hbn ⊢
          unfold tabL
          refine CW.seq ?_
          refine CW.region ?_
          refine OL.q (Y.lss rfl rfl) rfl ?_
          refine OL.nil ?_
          refine EX.seq ?_
          refine CW.seq ?_
          refine CW.cond rfl (fun h4 => ?_) (fun h4 => ?_)
          · repeat (first | replace h4 := yes h4 | replace h4 := no h4 | replace h4 := nyes h4 | replace h4 := nno h4)
            obtain ⟨v, hv⟩ : ∃ p, l[j]? = some p := ⟨_, List.getElem?_eq_getElem (by omega)⟩
            refine CW.skip ?_
            refine EX.seq ?_
            refine CW.seq ?_
            refine CW.block ?_
            refine CW.seq ?_
            refine CW.region ?_
            refine OL.q (Y.index Try.underlying28 C3 rfl rfl (Ent.frame (Up.rd _ _ _ _) (fun h hs => (hF h hs).2.1)) rfl (by omega)) rfl ?_
            refine OL.q (Y.load T3 rfl (cellsIs_at0 (rd_at (Ent.frame (Up.rd _ _ _ _) (fun h hs => (hF h hs).2.1)) (mget intCells hv)) rfl)) rfl ?_
            refine OL.q (Y.assign rfl) rfl ?_
            refine OL.nil ?_
            refine EX.seq ?_
            refine CW.seq ?_
            refine CW.region ?_
            refine OL.q (Y.move rfl) rfl ?_
            refine OL.buildSlice ([[.int .i64 v]]) Try.underlying28 C3 (by decide) rfl (by decide) rfl rfl rfl (fun b66 => ⟨rfl, rfl, ?_⟩)
            refine OL.q (Y.move rfl) rfl ?_
            refine OL.append ((l.take j).reverse.map intCells) 3 rfl Try.underlying28 E3 rfl rfl (Ent.at 2 rfl (Up.rd _ _ _ _) row_rd) (oneRows_map _ (fun _ => rfl) _) (by omega) (by omega) rfl (fun a68 c68 => ⟨rfl, rfl, ?_⟩)
            refine OL.q (Y.assign rfl) rfl ?_
            refine OL.nil ?_
            refine EX.seq ?_
            refine CW.seq ?_
            refine CW.seq ?_
            refine CW.region ?_
            refine OL.q (Y.move rfl) rfl ?_
            refine OL.q (Y.lss rfl rfl) rfl ?_
            refine OL.q (Y.move rfl) rfl ?_
            refine OL.guard (s := 71) rfl (fun g19_2 => ?_) (fun g19_2 => ?_)
            · have ng19_2 := g19_2
              repeat (first | replace ng19_2 := yes ng19_2 | replace ng19_2 := no ng19_2 | replace ng19_2 := nyes ng19_2 | replace ng19_2 := nno ng19_2)
              refine OL.no g19_2 rfl rfl rfl ?_
              refine OL.no g19_2 rfl rfl rfl ?_
              refine OL.no g19_2 rfl rfl rfl ?_
              refine OL.no g19_2 rfl rfl rfl ?_
              refine OL.q (Y.pickT rfl g19_2 rfl) rfl ?_
              refine OL.nil ?_
              refine EX.seq ?_
              refine CW.cond rfl (fun h5 => ?_) (fun h5 => ?_)
              rotate_left
              · repeat (first | replace h5 := yes h5 | replace h5 := no h5 | replace h5 := nyes h5 | replace h5 := nno h5)
                exfalso
                first | omega | contradiction | exact absurd rfl h5 | exact absurd h5 (by simp) | exact absurd h5 (by decide)
              repeat (first | replace h5 := yes h5 | replace h5 := no h5 | replace h5 := nyes h5 | replace h5 := nno h5)
              have hno : ¬ okV sn v := fun q => by have := q.1; omega
              refine CW.exit ?_
              refine EX.exitT ?_
              refine EX.exitB ?_
              refine EX.seq ?_
              refine CW.region ?_
              first | refine OL.q (Y.add1 rfl rfl rfl (by omega)) rfl ?_ | refine OL.q (Y.addN rfl rfl (by omega)) rfl ?_ | refine OL.q (Y.add rfl rfl (by omega)) rfl ?_
              refine OL.q (Y.move rfl) rfl ?_
              refine OL.nil ?_
              exact EX.next (j + 1, a68, 1 + bn, c68) [0, 1, 3] (show j + 1 ≤ ln ∧ 1 + bn = j + 1 by omega) (show ln - (j + 1) < ln - j by omega) ⟨rfl, rfl, rfl, rfl, rfl, rfl, (by rw [take_snoc hv, any_snoc, decide_eq_false hno, Bool.or_false]; rfl), rfl, rfl, rfl, rfl, trivial⟩ rfl (by show [_, _, _] = [_, _, _]; simp only []; rw [take_snoc hv, List.reverse_append, List.map_append]; rfl)
            · have ng19_2 := g19_2
              repeat (first | replace ng19_2 := yes ng19_2 | replace ng19_2 := no ng19_2 | replace ng19_2 := nyes ng19_2 | replace ng19_2 := nno ng19_2)
              refine OL.on g19_2 rfl rfl ?_
              refine OL.q (Y.move rfl) rfl ?_
              refine OL.on g19_2 rfl rfl ?_
              refine OL.q (Y.move rfl) rfl ?_
              refine OL.on g19_2 rfl rfl ?_
              refine OL.q (Y.lenSl Try.underlying45 rfl) rfl ?_
              refine OL.on g19_2 rfl rfl ?_
              refine OL.q (Y.geq rfl rfl) rfl ?_
              refine OL.q (Y.pickF rfl g19_2 rfl) rfl ?_
              refine OL.nil ?_
              refine EX.seq ?_
              refine CW.cond rfl (fun h5 => ?_) (fun h5 => ?_)
              · repeat (first | replace h5 := yes h5 | replace h5 := no h5 | replace h5 := nyes h5 | replace h5 := nno h5)
                have hno : ¬ okV sn v := fun q => by have := q.2; omega
                refine CW.exit ?_
                refine EX.exitT ?_
                refine EX.exitB ?_
                refine EX.seq ?_
                refine CW.region ?_
                first | refine OL.q (Y.add1 rfl rfl rfl (by omega)) rfl ?_ | refine OL.q (Y.addN rfl rfl (by omega)) rfl ?_ | refine OL.q (Y.add rfl rfl (by omega)) rfl ?_
                refine OL.q (Y.move rfl) rfl ?_
                refine OL.nil ?_
                exact EX.next (j + 1, a68, 1 + bn, c68) [0, 1, 3] (show j + 1 ≤ ln ∧ 1 + bn = j + 1 by omega) (show ln - (j + 1) < ln - j by omega) ⟨rfl, rfl, rfl, rfl, rfl, rfl, (by rw [take_snoc hv, any_snoc, decide_eq_false hno, Bool.or_false]; rfl), rfl, rfl, rfl, rfl, trivial⟩ rfl (by show [_, _, _] = [_, _, _]; simp only []; rw [take_snoc hv, List.reverse_append, List.map_append]; rfl)
              · repeat (first | replace h5 := yes h5 | replace h5 := no h5 | replace h5 := nyes h5 | replace h5 := nno h5)
                have hok : okV sn v := ⟨by omega, by omega⟩
                refine CW.skip ?_
                refine EX.seq ?_
                refine CW.seq ?_
                refine CW.region ?_
                refine OL.q (Y.assign rfl) rfl ?_
                refine OL.nil ?_
                refine EX.seq ?_
                refine CW.seq ?_
                refine CW.region ?_
                refine OL.q (Y.move rfl) rfl ?_
                refine OL.q (Y.not rfl) rfl ?_
                refine OL.q (Y.move rfl) rfl ?_
                refine OL.guard (s := 79) rfl (fun g21_2 => ?_) (fun g21_2 => ?_)
                · have ng21_2 := g21_2
                  repeat (first | replace ng21_2 := yes ng21_2 | replace ng21_2 := no ng21_2 | replace ng21_2 := nyes ng21_2 | replace ng21_2 := nno ng21_2)
                  exfalso
                  exact (hB.no ng21_2).2 v (mem_of hv) hok
                · have ng21_2 := g21_2
                  repeat (first | replace ng21_2 := yes ng21_2 | replace ng21_2 := no ng21_2 | replace ng21_2 := nyes ng21_2 | replace ng21_2 := nno ng21_2)
                  obtain ⟨hbm, hbv, hbb⟩ := hB.yes ng21_2
                  have hle := (hbb v (mem_of hv) hok).1
                  unfold kv at hle
                  refine OL.on g21_2 rfl rfl ?_
                  refine OL.q (Y.move rfl) rfl ?_
                  refine OL.on g21_2 rfl rfl ?_
                  refine OL.q (Y.move rfl) rfl ?_
                  refine OL.on g21_2 rfl rfl ?_
                  refine OL.call [0, 1] (score_any t a sn sn xs one1 4602678819172646912 b hxs) Try.call25 rfl rfl rfl rfl (Ent.nothing _) rfl ?_
                  rw [if_pos hbv]
                  rintro _ _ ⟨rfl, rfl⟩
                  refine ⟨rfl, rfl, ?_⟩
                  refine OL.on g21_2 rfl rfl ?_
                  refine OL.q (Y.move rfl) rfl ?_
                  refine OL.on g21_2 rfl rfl ?_
                  refine OL.q (Y.move rfl) rfl ?_
                  refine OL.on g21_2 rfl rfl ?_
                  refine OL.call [0, 1] (score_any t a sn sn xs one1 4602678819172646912 v hxs) Try.call25 rfl rfl rfl rfl (Ent.nothing _) rfl ?_
                  rw [if_pos hok]
                  rintro _ _ ⟨rfl, rfl⟩
                  refine ⟨rfl, rfl, ?_⟩
                  refine OL.on g21_2 rfl rfl ?_
                  refine OL.call [] (less_plain_any _ _ (plain_at hpl hxs hbv) (plain_at hpl hxs hok)) Try.call24 rfl rfl rfl rfl (Ent.nothing _) rfl ?_
                  rintro _ _ ⟨rfl, rfl⟩
                  refine ⟨rfl, rfl, ?_⟩
                  refine OL.q (Y.pickF rfl g21_2 rfl) rfl ?_
                  refine OL.nil ?_
                  refine EX.seq ?_
                  refine CW.cond rfl (fun h6 => ?_) (fun h6 => ?_)
                  · repeat (first | replace h6 := yes h6 | replace h6 := no h6 | replace h6 := nyes h6 | replace h6 := nno h6)
                    exfalso
                    first | omega | contradiction | exact absurd rfl h6 | exact absurd h6 (by simp) | exact absurd h6 (by decide)
                  repeat (first | replace h6 := yes h6 | replace h6 := no h6 | replace h6 := nyes h6 | replace h6 := nno h6)
                  refine CW.skip ?_
                  refine EX.norB ?_
                  refine EX.seq ?_
                  refine CW.region ?_
                  first | refine OL.q (Y.add1 rfl rfl rfl (by omega)) rfl ?_ | refine OL.q (Y.addN rfl rfl (by omega)) rfl ?_ | refine OL.q (Y.add rfl rfl (by omega)) rfl ?_
                  refine OL.q (Y.move rfl) rfl ?_
                  refine OL.nil ?_
                  exact EX.next (j + 1, a68, 1 + bn, c68) [0, 1, 3] (show j + 1 ≤ ln ∧ 1 + bn = j + 1 by omega) (show ln - (j + 1) < ln - j by omega) ⟨rfl, rfl, rfl, rfl, rfl, rfl, (by rw [take_snoc hv, any_snoc, decide_eq_true hok, Bool.or_true]; rfl), rfl, rfl, rfl, rfl, trivial⟩ rfl (by show [_, _, _] = [_, _, _]; simp only []; rw [take_snoc hv, List.reverse_append, List.map_append]; rfl)
          · repeat (first | replace h4 := yes h4 | replace h4 := no h4 | replace h4 := nyes h4 | replace h4 := nno h4)
            refine CW.exit ?_
            refine EX.exitT ?_
            refine EX.exitT ?_
            refine EX.exitB ?_
            refine EX.seq ?_
            refine CW.seq ?_
            have hjl : j = ln := by omega
            subst hjl
            rw [List.take_of_length_le (by omega)]
            refine CW.region ?_
            refine OL.q (Y.move rfl) rfl ?_
            refine OL.q (Y.move rfl) rfl ?_
            refine OL.call [0, 1] (best_any t a sn sn xs one1 4602678819172646912 ba (bn) bc (l.reverse) hxs (by simp; omega) hpl (by omega)) Try.call23 rfl rfl rfl rfl (Ent.at 2 rfl (Up.rd _ _ _ _) row_rd) rfl ?_
            rintro _ _ ⟨⟨b2, f2, rfl, hB2⟩, rfl⟩
            refine ⟨rfl, rfl, ?_⟩
            refine OL.q (Y.move rfl) rfl ?_
            refine OL.q (Y.extract rfl rfl) rfl ?_
            refine OL.q (Y.extract rfl rfl) rfl ?_
            refine OL.q (Y.assign rfl) rfl ?_
            refine OL.q (Y.assign rfl) rfl ?_
            refine OL.nil ?_
            refine EX.seq ?_
            refine CW.seq ?_
            refine CW.region ?_
            refine OL.q (Y.move rfl) rfl ?_
            refine OL.buildSlice ([]) Try.underlying28 C3 (by decide) rfl (by decide) rfl rfl rfl (fun b97 => ⟨rfl, rfl, ?_⟩)
            refine OL.q (Y.move rfl) rfl ?_
            refine OL.append (l.map intCells) 3 rfl Try.underlying28 E3 rfl rfl (Ent.frame (Up.rd _ _ _ _) (fun h hs => (hF h hs).2.1)) (oneRows_map _ (fun _ => rfl) _) (by omega) (by omega) rfl (fun a99 c99 => ⟨rfl, rfl, ?_⟩)
            refine OL.q (Y.move rfl) rfl ?_
            refine OL.append (m.map intCells) 3 rfl Try.underlying28 E3 rfl rfl (Ent.frame (Up.rd _ _ _ _) (fun h hs => (hF h hs).2.2)) (oneRows_map _ (fun _ => rfl) _) (by omega) (by omega) rfl (fun a101 c101 => ⟨rfl, rfl, ?_⟩)
            rw [show ([] ++ l.map intCells) ++ m.map intCells = (l ++ m).map intCells by simp]
            refine OL.call [0, 1] (best_any t a sn sn xs one1 4602678819172646912 a101 (_) c101 (l ++ m) hxs (by simp; omega) hpl (by omega)) Try.call23 rfl rfl rfl rfl (Ent.at 3 rfl (Up.rd _ _ _ _) row_rd) rfl ?_
            rintro _ _ ⟨⟨b3, f3, rfl, hB3⟩, rfl⟩
            refine ⟨rfl, rfl, ?_⟩
            refine OL.q (Y.move rfl) rfl ?_
            refine OL.q (Y.extract rfl rfl) rfl ?_
            refine OL.q (Y.extract rfl rfl) rfl ?_
            refine OL.q (Y.assign rfl) rfl ?_
            refine OL.q (Y.assign rfl) rfl ?_
            refine OL.nil ?_
            refine EX.seq ?_
            refine CW.seq ?_
            refine CW.seq ?_
            have ef := hB.any
            obtain ⟨eb, ef2⟩ := hB.same hB2 (fun v => by simp)
            refine CW.region ?_
            refine OL.q (Y.move rfl) rfl ?_
            refine OL.q (Y.move rfl) rfl ?_
            refine OL.q (Y.neqB Try.underlying4 rfl rfl) rfl ?_
            refine OL.q (Y.move rfl) rfl ?_
            refine OL.guard (s := 108) rfl (fun g26_3 => ?_) (fun g26_3 => ?_)
            · have ng26_3 := g26_3
              repeat (first | replace ng26_3 := yes ng26_3 | replace ng26_3 := no ng26_3 | replace ng26_3 := nyes ng26_3 | replace ng26_3 := nno ng26_3)
              exfalso
              exact ng26_3 ef
            · have ng26_3 := g26_3
              repeat (first | replace ng26_3 := yes ng26_3 | replace ng26_3 := no ng26_3 | replace ng26_3 := nyes ng26_3 | replace ng26_3 := nno ng26_3)
              refine OL.on g26_3 rfl rfl ?_
              refine OL.q (Y.move rfl) rfl ?_
              refine OL.on g26_3 rfl rfl ?_
              refine OL.q (Y.move rfl) rfl ?_
              refine OL.on g26_3 rfl rfl ?_
              refine OL.q (Y.neqB Try.underlying4 rfl rfl) rfl ?_
              refine OL.q (Y.pickF rfl g26_3 rfl) rfl ?_
              refine OL.q (Y.move rfl) rfl ?_
              refine OL.guard (s := 113) rfl (fun g26_8 => ?_) (fun g26_8 => ?_)
              · have ng26_8 := g26_8
                repeat (first | replace ng26_8 := yes ng26_8 | replace ng26_8 := no ng26_8 | replace ng26_8 := nyes ng26_8 | replace ng26_8 := nno ng26_8)
                exfalso
                exact ng26_8 ef2
              · have ng26_8 := g26_8
                repeat (first | replace ng26_8 := yes ng26_8 | replace ng26_8 := no ng26_8 | replace ng26_8 := nyes ng26_8 | replace ng26_8 := nno ng26_8)
                refine OL.on g26_8 rfl rfl ?_
                refine OL.q (Y.move rfl) rfl ?_
                refine OL.on g26_8 rfl rfl ?_
                refine OL.q (Y.move rfl) rfl ?_
                refine OL.on g26_8 rfl rfl ?_
                refine OL.q (Y.neq rfl rfl) rfl ?_
                refine OL.q (Y.pickF rfl g26_8 rfl) rfl ?_
                refine OL.q (Y.move rfl) rfl ?_
                refine OL.guard (s := 118) rfl (fun g26_13 => ?_) (fun g26_13 => ?_)
                · have ng26_13 := g26_13
                  repeat (first | replace ng26_13 := yes ng26_13 | replace ng26_13 := no ng26_13 | replace ng26_13 := nyes ng26_13 | replace ng26_13 := nno ng26_13)
                  exfalso
                  exact ng26_13 eb
                · have ng26_13 := g26_13
                  repeat (first | replace ng26_13 := yes ng26_13 | replace ng26_13 := no ng26_13 | replace ng26_13 := nyes ng26_13 | replace ng26_13 := nno ng26_13)
                  refine OL.on g26_13 rfl rfl ?_
                  refine OL.q (Y.move rfl) rfl ?_
                  refine OL.on g26_13 rfl rfl ?_
                  refine OL.q (Y.move rfl) rfl ?_
                  refine OL.guard (s := 120) rfl (fun g26_15 => ?_) (fun g26_15 => ?_)
                  · have ng26_15 := g26_15
                    repeat (first | replace ng26_15 := yes ng26_15 | replace ng26_15 := no ng26_15 | replace ng26_15 := nyes ng26_15 | replace ng26_15 := nno ng26_15)
                    have ft : f = true := g26_15
                    obtain rfl := ft
                    obtain ⟨ef3, hb3, hk3⟩ := hB.more hB3
                    refine OL.on g26_15 rfl rfl ?_
                    refine OL.q (Y.move rfl) rfl ?_
                    refine OL.on g26_15 rfl rfl ?_
                    refine OL.q (Y.not rfl) rfl ?_
                    refine OL.on g26_13 rfl rfl ?_
                    refine OL.q (Y.pickT rfl g26_15 rfl) rfl ?_
                    refine OL.q (Y.pickF rfl g26_13 rfl) rfl ?_
                    refine OL.nil ?_
                    refine EX.seq ?_
                    refine CW.cond rfl (fun h7 => ?_) (fun h7 => ?_)
                    · repeat (first | replace h7 := yes h7 | replace h7 := no h7 | replace h7 := nyes h7 | replace h7 := nno h7)
                      exfalso
                      rw [ef3] at h7; cases h7
                    repeat (first | replace h7 := yes h7 | replace h7 := no h7 | replace h7 := nyes h7 | replace h7 := nno h7)
                    refine CW.skip ?_
                    refine EX.seq ?_
                    refine CW.seq ?_
                    refine CW.region ?_
                    refine OL.q (Y.move rfl) rfl ?_
                    refine OL.q (Y.not rfl) rfl ?_
                    refine OL.q (Y.move rfl) rfl ?_
                    refine OL.guard (s := 127) rfl (fun g28_2 => ?_) (fun g28_2 => ?_)
                    · have ng28_2 := g28_2
                      repeat (first | replace ng28_2 := yes ng28_2 | replace ng28_2 := no ng28_2 | replace ng28_2 := nyes ng28_2 | replace ng28_2 := nno ng28_2)
                      exfalso
                      cases ng28_2
                    · have ng28_2 := g28_2
                      repeat (first | replace ng28_2 := yes ng28_2 | replace ng28_2 := no ng28_2 | replace ng28_2 := nyes ng28_2 | replace ng28_2 := nno ng28_2)
                      obtain ⟨_, hbv, _⟩ := hB.yes rfl
                      unfold kv at hk3
                      refine OL.on g28_2 rfl rfl ?_
                      refine OL.q (Y.move rfl) rfl ?_
                      refine OL.on g28_2 rfl rfl ?_
                      refine OL.q (Y.move rfl) rfl ?_
                      refine OL.on g28_2 rfl rfl ?_
                      refine OL.call [0, 1] (score_any t a sn sn xs one1 4602678819172646912 b3 hxs) Try.call25 rfl rfl rfl rfl (Ent.nothing _) rfl ?_
                      rw [if_pos hb3]
                      rintro _ _ ⟨rfl, rfl⟩
                      refine ⟨rfl, rfl, ?_⟩
                      refine OL.on g28_2 rfl rfl ?_
                      refine OL.q (Y.move rfl) rfl ?_
                      refine OL.on g28_2 rfl rfl ?_
                      refine OL.q (Y.move rfl) rfl ?_
                      refine OL.on g28_2 rfl rfl ?_
                      refine OL.call [0, 1] (score_any t a sn sn xs one1 4602678819172646912 b hxs) Try.call25 rfl rfl rfl rfl (Ent.nothing _) rfl ?_
                      rw [if_pos hbv]
                      rintro _ _ ⟨rfl, rfl⟩
                      refine ⟨rfl, rfl, ?_⟩
                      refine OL.on g28_2 rfl rfl ?_
                      refine OL.call [] (less_plain_any _ _ (plain_at hpl hxs hb3) (plain_at hpl hxs hbv)) Try.call24 rfl rfl rfl rfl (Ent.nothing _) rfl ?_
                      rintro _ _ ⟨rfl, rfl⟩
                      refine ⟨rfl, rfl, ?_⟩
                      refine OL.on g28_2 rfl rfl ?_
                      refine OL.q (Y.not rfl) rfl ?_
                      refine OL.q (Y.pickF rfl g28_2 rfl) rfl ?_
                      refine OL.q (Y.assign rfl) rfl ?_
                      refine OL.nil ?_
                      refine EX.seq ?_
                      refine CW.ret ?_
                      exact EX.fin1 [] rfl rfl rfl ⟨congrArg Value.bool (by rw [decide_eq_false (by omega)]; rfl), rfl⟩
                  · have ng26_15 := g26_15
                    repeat (first | replace ng26_15 := yes ng26_15 | replace ng26_15 := no ng26_15 | replace ng26_15 := nyes ng26_15 | replace ng26_15 := nno ng26_15)
                    refine OL.no g26_15 rfl rfl rfl ?_
                    refine OL.no g26_15 rfl rfl rfl ?_
                    refine OL.on g26_13 rfl rfl ?_
                    refine OL.q (Y.pickF rfl g26_15 rfl) rfl ?_
                    refine OL.q (Y.pickF rfl g26_13 rfl) rfl ?_
                    refine OL.nil ?_
                    refine EX.seq ?_
                    refine CW.cond rfl (fun h7 => ?_) (fun h7 => ?_)
                    · repeat (first | replace h7 := yes h7 | replace h7 := no h7 | replace h7 := nyes h7 | replace h7 := nno h7)
                      exfalso
                      contradiction
                    repeat (first | replace h7 := yes h7 | replace h7 := no h7 | replace h7 := nyes h7 | replace h7 := nno h7)
                    refine CW.skip ?_
                    refine EX.seq ?_
                    refine CW.seq ?_
                    refine CW.region ?_
                    refine OL.q (Y.move rfl) rfl ?_
                    refine OL.q (Y.not rfl) rfl ?_
                    refine OL.q (Y.move rfl) rfl ?_
                    refine OL.guard (s := 127) rfl (fun g28_2 => ?_) (fun g28_2 => ?_)
                    · have ng28_2 := g28_2
                      repeat (first | replace ng28_2 := yes ng28_2 | replace ng28_2 := no ng28_2 | replace ng28_2 := nyes ng28_2 | replace ng28_2 := nno ng28_2)
                      refine OL.no g28_2 rfl rfl rfl ?_
                      refine OL.no g28_2 rfl rfl rfl ?_
                      refine OL.no g28_2 rfl rfl rfl ?_
                      refine OL.no g28_2 rfl rfl rfl ?_
                      refine OL.no g28_2 rfl rfl rfl ?_
                      refine OL.no g28_2 rfl rfl rfl ?_
                      refine OL.no g28_2 rfl rfl rfl ?_
                      refine OL.no g28_2 rfl rfl rfl ?_
                      refine OL.q (Y.pickT rfl g28_2 rfl) rfl ?_
                      refine OL.q (Y.assign rfl) rfl ?_
                      refine OL.nil ?_
                      refine EX.seq ?_
                      refine CW.ret ?_
                      exact EX.fin1 [] rfl rfl rfl ⟨rfl, rfl⟩
                    · have ng28_2 := g28_2
                      repeat (first | replace ng28_2 := yes ng28_2 | replace ng28_2 := no ng28_2 | replace ng28_2 := nyes ng28_2 | replace ng28_2 := nno ng28_2)
                      exfalso
                      have hff : f = false := g26_15
                      rw [hff] at ng28_2; cases ng28_2
end Go.Proofs.Ythnejajlkijobaa
