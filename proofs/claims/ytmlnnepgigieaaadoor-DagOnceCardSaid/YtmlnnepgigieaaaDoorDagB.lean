/- What is wrong with a term, and its sort, as dag tells them. -/
import Derived.Test.YtmlnnepgigieaaaDoorDag
namespace Go.Proofs.YtmlnnepgigieaaaDoor
open Go.Sx

theorem T4 : Ty1 Tryd.prog 4 (.bool false) := ⟨Tryd.isAgg4, Tryd.sizeOf4, Tryd.zeroValue4⟩
theorem T55 : Ty1 Tryd.prog 55 (.slice none 0 0) := ⟨Tryd.isAgg55, Tryd.sizeOf55, Tryd.zeroValue55⟩
theorem T95 : Ty1 Tryd.prog 95 (.slice none 0 0) := ⟨Tryd.isAgg95, Tryd.sizeOf95, Tryd.zeroValue95⟩
theorem S30 : TyN Tryd.prog 30 4 [.int .i64 0, .int .i64 0, .slice none 0 0, .string ⟨#[]⟩] := ⟨Tryd.isAgg30, Tryd.sizeOf30, Tryd.zeroValue30, rfl⟩
theorem S38 : TyN Tryd.prog 38 3 [.string ⟨#[]⟩, .slice none 0 0, .int .i64 0] := ⟨Tryd.isAgg38, Tryd.sizeOf38, Tryd.zeroValue38, rfl⟩
theorem C4 : TyC Tryd.prog 4 1 [.bool false] := T4.c rfl
theorem C38 : TyC Tryd.prog 38 3 [.string ⟨#[]⟩, .slice none 0 0, .int .i64 0] := S38.c
theorem L38_1 : Fld Tryd.prog 38 1 1 := ⟨⟨_, Tryd.underlying38, _, rfl, rfl, 1, by decide, Tryd.sizeOf28⟩⟩
theorem L97_3 : Fld Tryd.prog 97 3 3 := ⟨⟨_, Tryd.underlying97, _, rfl, rfl, 1, by decide, Tryd.sizeOf55⟩⟩
theorem L97_5 : Fld Tryd.prog 97 5 5 := ⟨⟨_, Tryd.underlying97, _, rfl, rfl, 1, by decide, Tryd.sizeOf28⟩⟩
theorem L97_6 : Fld Tryd.prog 97 6 6 := ⟨⟨_, Tryd.underlying97, _, rfl, rfl, 1, by decide, Tryd.sizeOf95⟩⟩


/-- An arena, and a term's kids. -/
def dagK (t : Nat) (S : DagS) (v : DagV) (M : PH) (x : TermC) : HP := fun h => sl (dagR t S v M) h ∧ rd x.a x.n 1 (x.kids.map intCells) h
/-- What is wrong with a term's operator, function and number. -/
def headE (nf : Nat) (x : TermC) : Int := if x.op < 1 ∨ 19 < x.op then 1 else if x.op ≠ 3 ∧ x.fn ≠ 0 then 1 else if (x.op = 4 ∧ numB x.num = false) ∨ (x.op ≠ 4 ∧ x.num ≠ ⟨#[]⟩) then 1 else if x.op = 3 ∧ bad nf x.fn = true then 2 else 0
def rightB (op : Int) (n na : Nat) : Bool := if op = 1 ∨ op = 2 ∨ op = 4 then decide (n = 0) else if op = 3 then decide (n = na) else if op = 5 then decide (n = 1) else if op = 10 then decide (n = 3) else if op = 18 then decide (1 ≤ n) else decide (2 ≤ n)
def funAt (S : DagS) (k : Int) : FunC := S.funs.getD k.toNat ⟨⟨#[]⟩, none, 0, 0, [], 0⟩
def ofAt (S : DagS) (k : Int) : Int := S.of.getD k.toNat 0
def consAt (S : DagS) (k : Int) : Bool := S.cons.getD k.toNat false
def kidsE (S : DagS) (x : TermC) : Int := if x.kids.any (bad S.terms.length) then 2 else 0
def countE (S : DagS) (x : TermC) : Int := if rightB x.op x.kids.length (funAt S x.fn).args.length then 0 else 15
/-- The sort that a kid must have. -/
def wantE (S : DagS) (x : TermC) (i : Nat) : Int := if x.op = 3 then (funAt S x.fn).args.getD i 0 else if x.op = 5 ∨ x.op = 6 ∨ x.op = 7 ∨ x.op = 8 ∨ x.op = 9 then 0 else if x.op = 10 then (if i = 0 then 0 else ofAt S (x.kids.getD 1 0)) else if x.op = 11 ∨ x.op = 12 then ofAt S (x.kids.getD 0 0) else 1
def sortE (S : DagS) (x : TermC) : Int := if (List.range x.kids.length).all (fun i => decide (ofAt S (x.kids.getD i 0) = wantE S x i)) then 0 else 14
def freeK (S : DagS) (l : List Int) : Nat := (l.filter fun k => !consAt S k).length
def prodE (S : DagS) (x : TermC) : Int := if x.op = 19 ∧ 1 < freeK S x.kids then 16 else 0
/-- A right term's sort. -/
def resE (S : DagS) (x : TermC) : Int := if x.op = 3 then (funAt S x.fn).result else if x.op = 10 then ofAt S (x.kids.getD 1 0) else if x.op = 4 ∨ x.op = 17 ∨ x.op = 18 ∨ x.op = 19 then 1 else 0
/-- The first thing that is wrong. -/
def wrongE (S : DagS) (x : TermC) : Int := if headE S.funs.length x ≠ 0 then headE S.funs.length x else if kidsE S x ≠ 0 then kidsE S x else if countE S x ≠ 0 then countE S x else if sortE S x ≠ 0 then sortE S x else prodE S x


theorem wrongHead_any (t : Nat) (S : DagS) (v : DagV) (M : PH) (x : TermC) :
    FS Tryd.prog 56 [.pointer (some ⟨t, 0, none⟩), termVal x] (fun h => sl (dagR t S v M) h) [] (fun r H => r = .int .i64 (headE v.fn x) ∧ H = []) := by
  refine FS.intro (N := 58) Tryd.func56 rfl rfl rfl (fun F w0 hF => ?_)
  refine CW.seq ?_
  refine CW.region ?_
  refine OL.box rfl rfl rfl (fun b3 => ⟨rfl, rfl, ?_⟩)
  refine OL.q (Y.assign rfl) rfl ?_
  refine OL.nil ?_
  refine EX.seq ?_
  refine CW.seq ?_
  refine CW.seq ?_
  refine CW.region ?_
  refine OL.q (Y.field L30_0 rfl) rfl ?_
  refine OL.q (Y.load T3 rfl (Ent.at 0 rfl (Up.cellIs _ _ _) (blk_cell rfl))) rfl ?_
  refine OL.q (Y.lss rfl rfl) rfl ?_
  refine OL.q (Y.move rfl) rfl ?_
  refine OL.guard (s := 8) rfl (fun g1_3 => ?_) (fun g1_3 => ?_)
  · have ng1_3 := g1_3
    repeat (first | replace ng1_3 := yes ng1_3 | replace ng1_3 := no ng1_3 | replace ng1_3 := nyes ng1_3 | replace ng1_3 := nno ng1_3)
    refine OL.no g1_3 rfl rfl rfl ?_
    refine OL.no g1_3 rfl rfl rfl ?_
    refine OL.no g1_3 rfl rfl rfl ?_
    refine OL.q (Y.pickT rfl g1_3 rfl) rfl ?_
    refine OL.nil ?_
    refine EX.seq ?_
    refine CW.cond rfl (fun h0 => ?_) (fun h0 => ?_)
    rotate_left
    · repeat (first | replace h0 := yes h0 | replace h0 := no h0 | replace h0 := nyes h0 | replace h0 := nno h0)
      exfalso
      first | omega | contradiction | exact absurd rfl h0 | exact absurd h0 (by simp) | exact absurd h0 (by decide)
    repeat (first | replace h0 := yes h0 | replace h0 := no h0 | replace h0 := nyes h0 | replace h0 := nno h0)
    refine CW.seq ?_
    refine CW.region ?_
    refine OL.q (Y.assign rfl) rfl ?_
    refine OL.nil ?_
    refine EX.seq ?_
    refine CW.ret ?_
    refine EX.retT ?_
    exact EX.fin1 [] rfl rfl rfl ⟨by unfold headE; rw [if_pos (show x.op < 1 ∨ 19 < x.op by omega)], rfl⟩
  · have ng1_3 := g1_3
    repeat (first | replace ng1_3 := yes ng1_3 | replace ng1_3 := no ng1_3 | replace ng1_3 := nyes ng1_3 | replace ng1_3 := nno ng1_3)
    refine OL.on g1_3 rfl rfl ?_
    refine OL.q (Y.field L30_0 rfl) rfl ?_
    refine OL.on g1_3 rfl rfl ?_
    refine OL.q (Y.load T3 rfl (Ent.at 0 rfl (Up.cellIs _ _ _) (blk_cell rfl))) rfl ?_
    refine OL.on g1_3 rfl rfl ?_
    refine OL.q (Y.gtr rfl rfl) rfl ?_
    refine OL.q (Y.pickF rfl g1_3 rfl) rfl ?_
    refine OL.nil ?_
    refine EX.seq ?_
    refine CW.cond rfl (fun h0 => ?_) (fun h0 => ?_)
    · repeat (first | replace h0 := yes h0 | replace h0 := no h0 | replace h0 := nyes h0 | replace h0 := nno h0)
      refine CW.seq ?_
      refine CW.region ?_
      refine OL.q (Y.assign rfl) rfl ?_
      refine OL.nil ?_
      refine EX.seq ?_
      refine CW.ret ?_
      refine EX.retT ?_
      exact EX.fin1 [] rfl rfl rfl ⟨by unfold headE; rw [if_pos (show x.op < 1 ∨ 19 < x.op by omega)], rfl⟩
    · repeat (first | replace h0 := yes h0 | replace h0 := no h0 | replace h0 := nyes h0 | replace h0 := nno h0)
      refine CW.skip ?_
      refine EX.seq ?_
      refine CW.seq ?_
      refine CW.seq ?_
      refine CW.region ?_
      refine OL.q (Y.field L30_0 rfl) rfl ?_
      refine OL.q (Y.load T3 rfl (Ent.at 0 rfl (Up.cellIs _ _ _) (blk_cell rfl))) rfl ?_
      refine OL.q (Y.neq rfl rfl) rfl ?_
      refine OL.q (Y.move rfl) rfl ?_
      refine OL.guard (s := 16) rfl (fun g3_3 => ?_) (fun g3_3 => ?_)
      · have ng3_3 := g3_3
        repeat (first | replace ng3_3 := yes ng3_3 | replace ng3_3 := no ng3_3 | replace ng3_3 := nyes ng3_3 | replace ng3_3 := nno ng3_3)
        refine OL.on g3_3 rfl rfl ?_
        refine OL.q (Y.field L30_1 rfl) rfl ?_
        refine OL.on g3_3 rfl rfl ?_
        refine OL.q (Y.load T3 rfl (Ent.at 0 rfl (Up.cellIs _ _ _) (blk_cell rfl))) rfl ?_
        refine OL.on g3_3 rfl rfl ?_
        refine OL.q (Y.neq rfl rfl) rfl ?_
        refine OL.q (Y.pickT rfl g3_3 rfl) rfl ?_
        refine OL.nil ?_
        refine EX.seq ?_
        refine CW.cond rfl (fun h1 => ?_) (fun h1 => ?_)
        · repeat (first | replace h1 := yes h1 | replace h1 := no h1 | replace h1 := nyes h1 | replace h1 := nno h1)
          refine CW.seq ?_
          refine CW.region ?_
          refine OL.q (Y.assign rfl) rfl ?_
          refine OL.nil ?_
          refine EX.seq ?_
          refine CW.ret ?_
          refine EX.retT ?_
          exact EX.fin1 [] rfl rfl rfl ⟨by unfold headE; rw [if_neg (show ¬ (x.op < 1 ∨ 19 < x.op) by omega), if_pos (show x.op ≠ 3 ∧ x.fn ≠ 0 by omega)], rfl⟩
        · repeat (first | replace h1 := yes h1 | replace h1 := no h1 | replace h1 := nyes h1 | replace h1 := nno h1)
          refine CW.skip ?_
          refine EX.seq ?_
          refine CW.seq ?_
          refine CW.seq ?_
          refine CW.region ?_
          refine OL.q (Y.field L30_0 rfl) rfl ?_
          refine OL.q (Y.load T3 rfl (Ent.at 0 rfl (Up.cellIs _ _ _) (blk_cell rfl))) rfl ?_
          refine OL.q (Y.eql rfl rfl) rfl ?_
          refine OL.q (Y.move rfl) rfl ?_
          refine OL.guard (s := 24) rfl (fun g5_3 => ?_) (fun g5_3 => ?_)
          · have ng5_3 := g5_3
            repeat (first | replace ng5_3 := yes ng5_3 | replace ng5_3 := no ng5_3 | replace ng5_3 := nyes ng5_3 | replace ng5_3 := nno ng5_3)
            refine OL.on g5_3 rfl rfl ?_
            refine OL.q (Y.field L30_3 rfl) rfl ?_
            refine OL.on g5_3 rfl rfl ?_
            refine OL.q (Y.load T9 rfl (Ent.at 0 rfl (Up.cellIs _ _ _) (blk_cell rfl))) rfl ?_
            refine OL.on g5_3 rfl rfl ?_
            refine OL.call [] (isNumeral_any x.num) Tryd.call86 rfl rfl rfl rfl (Ent.nothing _) rfl ?_
            rintro _ _ ⟨rfl, rfl⟩
            refine ⟨rfl, rfl, ?_⟩
            refine OL.on g5_3 rfl rfl ?_
            refine OL.q (Y.not rfl) rfl ?_
            refine OL.q (Y.pickT rfl g5_3 rfl) rfl ?_
            refine OL.q (Y.move rfl) rfl ?_
            refine OL.guard (s := 30) rfl (fun g5_9 => ?_) (fun g5_9 => ?_)
            · have ng5_9 := g5_9
              repeat (first | replace ng5_9 := yes ng5_9 | replace ng5_9 := no ng5_9 | replace ng5_9 := nyes ng5_9 | replace ng5_9 := nno ng5_9)
              refine OL.no g5_9 rfl rfl rfl ?_
              refine OL.no g5_9 rfl rfl rfl ?_
              refine OL.no g5_9 rfl rfl rfl ?_
              refine OL.no g5_9 rfl rfl rfl ?_
              refine OL.dead rfl rfl rfl ?_
              refine OL.dead rfl rfl rfl ?_
              refine OL.dead rfl rfl rfl ?_
              refine OL.no g5_9 rfl rfl rfl ?_
              refine OL.q (Y.pickT rfl g5_9 rfl) rfl ?_
              refine OL.nil ?_
              refine EX.seq ?_
              refine CW.cond rfl (fun h2 => ?_) (fun h2 => ?_)
              rotate_left
              · repeat (first | replace h2 := yes h2 | replace h2 := no h2 | replace h2 := nyes h2 | replace h2 := nno h2)
                exfalso
                first | omega | contradiction | exact absurd rfl h2 | exact absurd h2 (by simp) | exact absurd h2 (by decide)
              repeat (first | replace h2 := yes h2 | replace h2 := no h2 | replace h2 := nyes h2 | replace h2 := nno h2)
              refine CW.seq ?_
              refine CW.region ?_
              refine OL.q (Y.assign rfl) rfl ?_
              refine OL.nil ?_
              refine EX.seq ?_
              refine CW.ret ?_
              refine EX.retT ?_
              exact EX.fin1 [] rfl rfl rfl ⟨by unfold headE; rw [if_neg (show ¬ (x.op < 1 ∨ 19 < x.op) by omega), if_neg (show ¬ (x.op ≠ 3 ∧ x.fn ≠ 0) by omega), if_pos (.inl ⟨ng5_3, ng5_9⟩)], rfl⟩
            · have ng5_9 := g5_9
              repeat (first | replace ng5_9 := yes ng5_9 | replace ng5_9 := no ng5_9 | replace ng5_9 := nyes ng5_9 | replace ng5_9 := nno ng5_9)
              refine OL.on g5_9 rfl rfl ?_
              refine OL.q (Y.field L30_0 rfl) rfl ?_
              refine OL.on g5_9 rfl rfl ?_
              refine OL.q (Y.load T3 rfl (Ent.at 0 rfl (Up.cellIs _ _ _) (blk_cell rfl))) rfl ?_
              refine OL.on g5_9 rfl rfl ?_
              refine OL.q (Y.neq rfl rfl) rfl ?_
              refine OL.on g5_9 rfl rfl ?_
              refine OL.q (Y.move rfl) rfl ?_
              refine OL.guard (s := 34) rfl (fun g5_13 => ?_) (fun g5_13 => ?_)
              · have ng5_13 := g5_13
                repeat (first | replace ng5_13 := yes ng5_13 | replace ng5_13 := no ng5_13 | replace ng5_13 := nyes ng5_13 | replace ng5_13 := nno ng5_13)
                exfalso
                first | omega | contradiction | exact absurd rfl ng5_13 | exact absurd ng5_13 (by simp) | exact absurd ng5_13 (by decide)
              · have ng5_13 := g5_13
                repeat (first | replace ng5_13 := yes ng5_13 | replace ng5_13 := no ng5_13 | replace ng5_13 := nyes ng5_13 | replace ng5_13 := nno ng5_13)
                refine OL.no g5_13 rfl rfl rfl ?_
                refine OL.no g5_13 rfl rfl rfl ?_
                refine OL.no g5_13 rfl rfl rfl ?_
                refine OL.on g5_9 rfl rfl ?_
                refine OL.q (Y.pickF rfl g5_13 rfl) rfl ?_
                refine OL.q (Y.pickF rfl g5_9 rfl) rfl ?_
                refine OL.nil ?_
                refine EX.seq ?_
                refine CW.cond rfl (fun h2 => ?_) (fun h2 => ?_)
                · repeat (first | replace h2 := yes h2 | replace h2 := no h2 | replace h2 := nyes h2 | replace h2 := nno h2)
                  exfalso
                  first | omega | contradiction | exact absurd rfl h2 | exact absurd h2 (by simp) | exact absurd h2 (by decide)
                repeat (first | replace h2 := yes h2 | replace h2 := no h2 | replace h2 := nyes h2 | replace h2 := nno h2)
                have k3 : ¬ ((x.op = 4 ∧ numB x.num = false) ∨ (x.op ≠ 4 ∧ x.num ≠ ⟨#[]⟩)) := by
                  rintro (⟨_, h⟩ | ⟨h, _⟩)
                  · rw [ng5_9] at h; cases h
                  · exact h ng5_3
                refine CW.skip ?_
                refine EX.seq ?_
                refine CW.seq ?_
                refine CW.seq ?_
                refine CW.drawn [(true, 0), (true, 1), (true, 2), (true, 3), (true, 4), (true, 5), (true, 6), (true, 7), (true, 8), (true, 9), (true, 10), (true, 11), (true, 12), (true, 13), (true, 14), (true, 15), (true, 16), (true, 17)] [] [0] mixed (by kernel_rfl) (by repeat (first | exact PanicOk.body | refine PanicOk.then ?_ | refine PanicOk.block ?_)) (by kernel_rfl) rfl rfl rfl rfl ?_
                refine OL.qt (Y.field L30_0 rfl) rfl ?_
                refine OL.qt (Y.load T3 rfl (Ent.at 0 rfl (Up.cellIs _ _ _) (blk_cell rfl))) rfl ?_
                refine OL.qt (Y.eql rfl rfl) rfl ?_
                refine OL.qt (Y.move rfl) rfl ?_
                refine OL.guard (s := 43) rfl (fun g7_3 => ?_) (fun g7_3 => ?_)
                · have ng7_3 := g7_3
                  repeat (first | replace ng7_3 := yes ng7_3 | replace ng7_3 := no ng7_3 | replace ng7_3 := nyes ng7_3 | replace ng7_3 := nno ng7_3)
                  refine OL.ont g7_3 rfl rfl ?_
                  refine OL.qt (Y.field L30_1 rfl) rfl ?_
                  refine OL.ont g7_3 rfl rfl ?_
                  refine OL.qt (Y.load T3 rfl (Ent.at 0 rfl (Up.cellIs _ _ _) (blk_cell rfl))) rfl ?_
                  refine OL.ont g7_3 rfl rfl ?_
                  refine OL.qt (Y.lss rfl rfl) rfl ?_
                  refine OL.ont g7_3 rfl rfl ?_
                  refine OL.qt (Y.move rfl) rfl ?_
                  refine OL.guard (s := 47) rfl (fun g7_7 => ?_) (fun g7_7 => ?_)
                  · have ng7_7 := g7_7
                    repeat (first | replace ng7_7 := yes ng7_7 | replace ng7_7 := no ng7_7 | replace ng7_7 := nyes ng7_7 | replace ng7_7 := nno ng7_7)
                    refine OL.tno g7_7 rfl rfl rfl ?_
                    refine OL.tno g7_7 rfl rfl rfl ?_
                    refine OL.tno g7_7 rfl rfl rfl ?_
                    refine OL.tno g7_7 rfl rfl rfl ?_
                    refine OL.tno g7_7 rfl rfl rfl ?_
                    refine OL.tno g7_7 rfl rfl rfl ?_
                    refine OL.tno g7_7 rfl rfl rfl ?_
                    refine OL.tno g7_7 rfl rfl rfl ?_
                    refine OL.ont g7_3 rfl rfl ?_
                    refine OL.qt (Y.pickT rfl g7_7 rfl) rfl ?_
                    refine OL.qt (Y.pickT rfl g7_3 rfl) rfl ?_
                    refine OL.nil ?_
                    refine EX.tail ?_
                    refine OL.nil ?_
                    refine EX.seq ?_
                    refine CW.cond rfl (fun h3 => ?_) (fun h3 => ?_)
                    rotate_left
                    · repeat (first | replace h3 := yes h3 | replace h3 := no h3 | replace h3 := nyes h3 | replace h3 := nno h3)
                      exfalso
                      first | omega | contradiction | exact absurd rfl h3 | exact absurd h3 (by simp) | exact absurd h3 (by decide)
                    repeat (first | replace h3 := yes h3 | replace h3 := no h3 | replace h3 := nyes h3 | replace h3 := nno h3)
                    refine CW.seq ?_
                    refine CW.region ?_
                    refine OL.q (Y.assign rfl) rfl ?_
                    refine OL.nil ?_
                    refine EX.seq ?_
                    refine CW.ret ?_
                    refine EX.retT ?_
                    exact EX.fin1 [] rfl rfl rfl ⟨by unfold headE; rw [if_neg (show ¬ (x.op < 1 ∨ 19 < x.op) by omega), if_neg (show ¬ (x.op ≠ 3 ∧ x.fn ≠ 0) by omega), if_neg k3, if_pos ⟨ng7_3, by unfold bad; simp; omega⟩], rfl⟩
                  · have ng7_7 := g7_7
                    repeat (first | replace ng7_7 := yes ng7_7 | replace ng7_7 := no ng7_7 | replace ng7_7 := nyes ng7_7 | replace ng7_7 := nno ng7_7)
                    refine OL.ont g7_7 rfl rfl ?_
                    refine OL.qt (Y.field L30_1 rfl) rfl ?_
                    refine OL.ont g7_7 rfl rfl ?_
                    refine OL.qt (Y.load T3 rfl (Ent.at 0 rfl (Up.cellIs _ _ _) (blk_cell rfl))) rfl ?_
                    refine OL.ont g7_7 rfl rfl ?_
                    refine OL.qt (Y.move rfl) rfl ?_
                    refine OL.ont g7_7 rfl rfl ?_
                    refine OL.qt (Y.nilCheck rfl) rfl ?_
                    refine OL.ont g7_7 rfl rfl ?_
                    refine OL.qt (Y.field L97_3 rfl) rfl ?_
                    refine OL.ont g7_7 rfl rfl ?_
                    refine OL.qt (Y.load T55 rfl (Ent.via hF (Up.cellIs _ _ _) (Ent.at 0 rfl (Up.cellIs _ _ _) (blk_cell rfl)))) rfl ?_
                    refine OL.ont g7_7 rfl rfl ?_
                    refine OL.qt (Y.lenSl Tryd.underlying55 rfl) rfl ?_
                    refine OL.ont g7_7 rfl rfl ?_
                    refine OL.qt (Y.geq rfl rfl) rfl ?_
                    refine OL.ont g7_3 rfl rfl ?_
                    refine OL.qt (Y.pickF rfl g7_7 rfl) rfl ?_
                    refine OL.qt (Y.pickT rfl g7_3 rfl) rfl ?_
                    refine OL.nil ?_
                    refine EX.tail ?_
                    refine OL.nil ?_
                    refine EX.seq ?_
                    refine CW.cond rfl (fun h3 => ?_) (fun h3 => ?_)
                    · repeat (first | replace h3 := yes h3 | replace h3 := no h3 | replace h3 := nyes h3 | replace h3 := nno h3)
                      refine CW.seq ?_
                      refine CW.region ?_
                      refine OL.q (Y.assign rfl) rfl ?_
                      refine OL.nil ?_
                      refine EX.seq ?_
                      refine CW.ret ?_
                      refine EX.retT ?_
                      exact EX.fin1 [] rfl rfl rfl ⟨by unfold headE; rw [if_neg (show ¬ (x.op < 1 ∨ 19 < x.op) by omega), if_neg (show ¬ (x.op ≠ 3 ∧ x.fn ≠ 0) by omega), if_neg k3, if_pos ⟨ng7_3, by unfold bad; simp; omega⟩], rfl⟩
                    · repeat (first | replace h3 := yes h3 | replace h3 := no h3 | replace h3 := nyes h3 | replace h3 := nno h3)
                      refine CW.skip ?_
                      refine EX.seq ?_
                      refine CW.seq ?_
                      refine CW.region ?_
                      refine OL.q (Y.assign rfl) rfl ?_
                      refine OL.nil ?_
                      refine EX.seq ?_
                      refine CW.ret ?_
                      exact EX.fin1 [] rfl rfl rfl ⟨by unfold headE; rw [if_neg (show ¬ (x.op < 1 ∨ 19 < x.op) by omega), if_neg (show ¬ (x.op ≠ 3 ∧ x.fn ≠ 0) by omega), if_neg k3, if_neg (fun q => by have := q.2; unfold bad at this; simp at this; omega)], rfl⟩
                · have ng7_3 := g7_3
                  repeat (first | replace ng7_3 := yes ng7_3 | replace ng7_3 := no ng7_3 | replace ng7_3 := nyes ng7_3 | replace ng7_3 := nno ng7_3)
                  refine OL.tno g7_3 rfl rfl rfl ?_
                  refine OL.tno g7_3 rfl rfl rfl ?_
                  refine OL.tno g7_3 rfl rfl rfl ?_
                  refine OL.tno g7_3 rfl rfl rfl ?_
                  refine OL.tdead rfl rfl rfl ?_
                  refine OL.tdead rfl rfl rfl ?_
                  refine OL.tdead rfl rfl rfl ?_
                  refine OL.tdead rfl rfl rfl ?_
                  refine OL.tdead rfl rfl rfl ?_
                  refine OL.tdead rfl rfl rfl ?_
                  refine OL.tdead rfl rfl rfl ?_
                  refine OL.tdead rfl rfl rfl ?_
                  refine OL.tno g7_3 rfl rfl rfl ?_
                  refine OL.qt (Y.pickF rfl g7_3 rfl) rfl ?_
                  refine OL.nil ?_
                  refine EX.tail ?_
                  refine OL.nil ?_
                  refine EX.seq ?_
                  refine CW.cond rfl (fun h3 => ?_) (fun h3 => ?_)
                  · repeat (first | replace h3 := yes h3 | replace h3 := no h3 | replace h3 := nyes h3 | replace h3 := nno h3)
                    exfalso
                    first | omega | contradiction | exact absurd rfl h3 | exact absurd h3 (by simp) | exact absurd h3 (by decide)
                  repeat (first | replace h3 := yes h3 | replace h3 := no h3 | replace h3 := nyes h3 | replace h3 := nno h3)
                  refine CW.skip ?_
                  refine EX.seq ?_
                  refine CW.seq ?_
                  refine CW.region ?_
                  refine OL.q (Y.assign rfl) rfl ?_
                  refine OL.nil ?_
                  refine EX.seq ?_
                  refine CW.ret ?_
                  exact EX.fin1 [] rfl rfl rfl ⟨by unfold headE; rw [if_neg (show ¬ (x.op < 1 ∨ 19 < x.op) by omega), if_neg (show ¬ (x.op ≠ 3 ∧ x.fn ≠ 0) by omega), if_neg k3, if_neg (fun q => ng7_3 q.1)], rfl⟩
          · have ng5_3 := g5_3
            repeat (first | replace ng5_3 := yes ng5_3 | replace ng5_3 := no ng5_3 | replace ng5_3 := nyes ng5_3 | replace ng5_3 := nno ng5_3)
            refine OL.no g5_3 rfl rfl rfl ?_
            refine OL.no g5_3 rfl rfl rfl ?_
            refine OL.no g5_3 rfl rfl rfl ?_
            refine OL.no g5_3 rfl rfl rfl ?_
            refine OL.q (Y.pickF rfl g5_3 rfl) rfl ?_
            refine OL.q (Y.move rfl) rfl ?_
            refine OL.guard (s := 30) rfl (fun g5_9 => ?_) (fun g5_9 => ?_)
            · have ng5_9 := g5_9
              repeat (first | replace ng5_9 := yes ng5_9 | replace ng5_9 := no ng5_9 | replace ng5_9 := nyes ng5_9 | replace ng5_9 := nno ng5_9)
              exfalso
              first | omega | contradiction | exact absurd rfl ng5_9 | exact absurd ng5_9 (by simp) | exact absurd ng5_9 (by decide)
            · have ng5_9 := g5_9
              repeat (first | replace ng5_9 := yes ng5_9 | replace ng5_9 := no ng5_9 | replace ng5_9 := nyes ng5_9 | replace ng5_9 := nno ng5_9)
              refine OL.on g5_9 rfl rfl ?_
              refine OL.q (Y.field L30_0 rfl) rfl ?_
              refine OL.on g5_9 rfl rfl ?_
              refine OL.q (Y.load T3 rfl (Ent.at 0 rfl (Up.cellIs _ _ _) (blk_cell rfl))) rfl ?_
              refine OL.on g5_9 rfl rfl ?_
              refine OL.q (Y.neq rfl rfl) rfl ?_
              refine OL.on g5_9 rfl rfl ?_
              refine OL.q (Y.move rfl) rfl ?_
              refine OL.guard (s := 34) rfl (fun g5_13 => ?_) (fun g5_13 => ?_)
              · have ng5_13 := g5_13
                repeat (first | replace ng5_13 := yes ng5_13 | replace ng5_13 := no ng5_13 | replace ng5_13 := nyes ng5_13 | replace ng5_13 := nno ng5_13)
                refine OL.on g5_13 rfl rfl ?_
                refine OL.q (Y.field L30_3 rfl) rfl ?_
                refine OL.on g5_13 rfl rfl ?_
                refine OL.q (Y.load T9 rfl (Ent.at 0 rfl (Up.cellIs _ _ _) (blk_cell rfl))) rfl ?_
                refine OL.on g5_13 rfl rfl ?_
                refine OL.q (Y.neqS rfl rfl) rfl ?_
                refine OL.on g5_9 rfl rfl ?_
                refine OL.q (Y.pickT rfl g5_13 rfl) rfl ?_
                refine OL.q (Y.pickF rfl g5_9 rfl) rfl ?_
                refine OL.nil ?_
                refine EX.seq ?_
                refine CW.cond rfl (fun h2 => ?_) (fun h2 => ?_)
                · repeat (first | replace h2 := yes h2 | replace h2 := no h2 | replace h2 := nyes h2 | replace h2 := nno h2)
                  refine CW.seq ?_
                  refine CW.region ?_
                  refine OL.q (Y.assign rfl) rfl ?_
                  refine OL.nil ?_
                  refine EX.seq ?_
                  refine CW.ret ?_
                  refine EX.retT ?_
                  exact EX.fin1 [] rfl rfl rfl ⟨by unfold headE; rw [if_neg (show ¬ (x.op < 1 ∨ 19 < x.op) by omega), if_neg (show ¬ (x.op ≠ 3 ∧ x.fn ≠ 0) by omega), if_pos (.inr ⟨ng5_3, h2⟩)], rfl⟩
                · repeat (first | replace h2 := yes h2 | replace h2 := no h2 | replace h2 := nyes h2 | replace h2 := nno h2)
                  have k3 : ¬ ((x.op = 4 ∧ numB x.num = false) ∨ (x.op ≠ 4 ∧ x.num ≠ ⟨#[]⟩)) := by
                    rintro (⟨h, _⟩ | ⟨_, h⟩)
                    · exact ng5_3 h
                    · exact h2 h
                  refine CW.skip ?_
                  refine EX.seq ?_
                  refine CW.seq ?_
                  refine CW.seq ?_
                  refine CW.drawn [(true, 0), (true, 1), (true, 2), (true, 3), (true, 4), (true, 5), (true, 6), (true, 7), (true, 8), (true, 9), (true, 10), (true, 11), (true, 12), (true, 13), (true, 14), (true, 15), (true, 16), (true, 17)] [] [0] mixed (by kernel_rfl) (by repeat (first | exact PanicOk.body | refine PanicOk.then ?_ | refine PanicOk.block ?_)) (by kernel_rfl) rfl rfl rfl rfl ?_
                  refine OL.qt (Y.field L30_0 rfl) rfl ?_
                  refine OL.qt (Y.load T3 rfl (Ent.at 0 rfl (Up.cellIs _ _ _) (blk_cell rfl))) rfl ?_
                  refine OL.qt (Y.eql rfl rfl) rfl ?_
                  refine OL.qt (Y.move rfl) rfl ?_
                  refine OL.guard (s := 43) rfl (fun g7_3 => ?_) (fun g7_3 => ?_)
                  · have ng7_3 := g7_3
                    repeat (first | replace ng7_3 := yes ng7_3 | replace ng7_3 := no ng7_3 | replace ng7_3 := nyes ng7_3 | replace ng7_3 := nno ng7_3)
                    refine OL.ont g7_3 rfl rfl ?_
                    refine OL.qt (Y.field L30_1 rfl) rfl ?_
                    refine OL.ont g7_3 rfl rfl ?_
                    refine OL.qt (Y.load T3 rfl (Ent.at 0 rfl (Up.cellIs _ _ _) (blk_cell rfl))) rfl ?_
                    refine OL.ont g7_3 rfl rfl ?_
                    refine OL.qt (Y.lss rfl rfl) rfl ?_
                    refine OL.ont g7_3 rfl rfl ?_
                    refine OL.qt (Y.move rfl) rfl ?_
                    refine OL.guard (s := 47) rfl (fun g7_7 => ?_) (fun g7_7 => ?_)
                    · have ng7_7 := g7_7
                      repeat (first | replace ng7_7 := yes ng7_7 | replace ng7_7 := no ng7_7 | replace ng7_7 := nyes ng7_7 | replace ng7_7 := nno ng7_7)
                      refine OL.tno g7_7 rfl rfl rfl ?_
                      refine OL.tno g7_7 rfl rfl rfl ?_
                      refine OL.tno g7_7 rfl rfl rfl ?_
                      refine OL.tno g7_7 rfl rfl rfl ?_
                      refine OL.tno g7_7 rfl rfl rfl ?_
                      refine OL.tno g7_7 rfl rfl rfl ?_
                      refine OL.tno g7_7 rfl rfl rfl ?_
                      refine OL.tno g7_7 rfl rfl rfl ?_
                      refine OL.ont g7_3 rfl rfl ?_
                      refine OL.qt (Y.pickT rfl g7_7 rfl) rfl ?_
                      refine OL.qt (Y.pickT rfl g7_3 rfl) rfl ?_
                      refine OL.nil ?_
                      refine EX.tail ?_
                      refine OL.nil ?_
                      refine EX.seq ?_
                      refine CW.cond rfl (fun h3 => ?_) (fun h3 => ?_)
                      rotate_left
                      · repeat (first | replace h3 := yes h3 | replace h3 := no h3 | replace h3 := nyes h3 | replace h3 := nno h3)
                        exfalso
                        first | omega | contradiction | exact absurd rfl h3 | exact absurd h3 (by simp) | exact absurd h3 (by decide)
                      repeat (first | replace h3 := yes h3 | replace h3 := no h3 | replace h3 := nyes h3 | replace h3 := nno h3)
                      refine CW.seq ?_
                      refine CW.region ?_
                      refine OL.q (Y.assign rfl) rfl ?_
                      refine OL.nil ?_
                      refine EX.seq ?_
                      refine CW.ret ?_
                      refine EX.retT ?_
                      exact EX.fin1 [] rfl rfl rfl ⟨by unfold headE; rw [if_neg (show ¬ (x.op < 1 ∨ 19 < x.op) by omega), if_neg (show ¬ (x.op ≠ 3 ∧ x.fn ≠ 0) by omega), if_neg k3, if_pos ⟨ng7_3, by unfold bad; simp; omega⟩], rfl⟩
                    · have ng7_7 := g7_7
                      repeat (first | replace ng7_7 := yes ng7_7 | replace ng7_7 := no ng7_7 | replace ng7_7 := nyes ng7_7 | replace ng7_7 := nno ng7_7)
                      refine OL.ont g7_7 rfl rfl ?_
                      refine OL.qt (Y.field L30_1 rfl) rfl ?_
                      refine OL.ont g7_7 rfl rfl ?_
                      refine OL.qt (Y.load T3 rfl (Ent.at 0 rfl (Up.cellIs _ _ _) (blk_cell rfl))) rfl ?_
                      refine OL.ont g7_7 rfl rfl ?_
                      refine OL.qt (Y.move rfl) rfl ?_
                      refine OL.ont g7_7 rfl rfl ?_
                      refine OL.qt (Y.nilCheck rfl) rfl ?_
                      refine OL.ont g7_7 rfl rfl ?_
                      refine OL.qt (Y.field L97_3 rfl) rfl ?_
                      refine OL.ont g7_7 rfl rfl ?_
                      refine OL.qt (Y.load T55 rfl (Ent.via hF (Up.cellIs _ _ _) (Ent.at 0 rfl (Up.cellIs _ _ _) (blk_cell rfl)))) rfl ?_
                      refine OL.ont g7_7 rfl rfl ?_
                      refine OL.qt (Y.lenSl Tryd.underlying55 rfl) rfl ?_
                      refine OL.ont g7_7 rfl rfl ?_
                      refine OL.qt (Y.geq rfl rfl) rfl ?_
                      refine OL.ont g7_3 rfl rfl ?_
                      refine OL.qt (Y.pickF rfl g7_7 rfl) rfl ?_
                      refine OL.qt (Y.pickT rfl g7_3 rfl) rfl ?_
                      refine OL.nil ?_
                      refine EX.tail ?_
                      refine OL.nil ?_
                      refine EX.seq ?_
                      refine CW.cond rfl (fun h3 => ?_) (fun h3 => ?_)
                      · repeat (first | replace h3 := yes h3 | replace h3 := no h3 | replace h3 := nyes h3 | replace h3 := nno h3)
                        refine CW.seq ?_
                        refine CW.region ?_
                        refine OL.q (Y.assign rfl) rfl ?_
                        refine OL.nil ?_
                        refine EX.seq ?_
                        refine CW.ret ?_
                        refine EX.retT ?_
                        exact EX.fin1 [] rfl rfl rfl ⟨by unfold headE; rw [if_neg (show ¬ (x.op < 1 ∨ 19 < x.op) by omega), if_neg (show ¬ (x.op ≠ 3 ∧ x.fn ≠ 0) by omega), if_neg k3, if_pos ⟨ng7_3, by unfold bad; simp; omega⟩], rfl⟩
                      · repeat (first | replace h3 := yes h3 | replace h3 := no h3 | replace h3 := nyes h3 | replace h3 := nno h3)
                        refine CW.skip ?_
                        refine EX.seq ?_
                        refine CW.seq ?_
                        refine CW.region ?_
                        refine OL.q (Y.assign rfl) rfl ?_
                        refine OL.nil ?_
                        refine EX.seq ?_
                        refine CW.ret ?_
                        exact EX.fin1 [] rfl rfl rfl ⟨by unfold headE; rw [if_neg (show ¬ (x.op < 1 ∨ 19 < x.op) by omega), if_neg (show ¬ (x.op ≠ 3 ∧ x.fn ≠ 0) by omega), if_neg k3, if_neg (fun q => by have := q.2; unfold bad at this; simp at this; omega)], rfl⟩
                  · have ng7_3 := g7_3
                    repeat (first | replace ng7_3 := yes ng7_3 | replace ng7_3 := no ng7_3 | replace ng7_3 := nyes ng7_3 | replace ng7_3 := nno ng7_3)
                    refine OL.tno g7_3 rfl rfl rfl ?_
                    refine OL.tno g7_3 rfl rfl rfl ?_
                    refine OL.tno g7_3 rfl rfl rfl ?_
                    refine OL.tno g7_3 rfl rfl rfl ?_
                    refine OL.tdead rfl rfl rfl ?_
                    refine OL.tdead rfl rfl rfl ?_
                    refine OL.tdead rfl rfl rfl ?_
                    refine OL.tdead rfl rfl rfl ?_
                    refine OL.tdead rfl rfl rfl ?_
                    refine OL.tdead rfl rfl rfl ?_
                    refine OL.tdead rfl rfl rfl ?_
                    refine OL.tdead rfl rfl rfl ?_
                    refine OL.tno g7_3 rfl rfl rfl ?_
                    refine OL.qt (Y.pickF rfl g7_3 rfl) rfl ?_
                    refine OL.nil ?_
                    refine EX.tail ?_
                    refine OL.nil ?_
                    refine EX.seq ?_
                    refine CW.cond rfl (fun h3 => ?_) (fun h3 => ?_)
                    · repeat (first | replace h3 := yes h3 | replace h3 := no h3 | replace h3 := nyes h3 | replace h3 := nno h3)
                      exfalso
                      first | omega | contradiction | exact absurd rfl h3 | exact absurd h3 (by simp) | exact absurd h3 (by decide)
                    repeat (first | replace h3 := yes h3 | replace h3 := no h3 | replace h3 := nyes h3 | replace h3 := nno h3)
                    refine CW.skip ?_
                    refine EX.seq ?_
                    refine CW.seq ?_
                    refine CW.region ?_
                    refine OL.q (Y.assign rfl) rfl ?_
                    refine OL.nil ?_
                    refine EX.seq ?_
                    refine CW.ret ?_
                    exact EX.fin1 [] rfl rfl rfl ⟨by unfold headE; rw [if_neg (show ¬ (x.op < 1 ∨ 19 < x.op) by omega), if_neg (show ¬ (x.op ≠ 3 ∧ x.fn ≠ 0) by omega), if_neg k3, if_neg (fun q => ng7_3 q.1)], rfl⟩
              · have ng5_13 := g5_13
                repeat (first | replace ng5_13 := yes ng5_13 | replace ng5_13 := no ng5_13 | replace ng5_13 := nyes ng5_13 | replace ng5_13 := nno ng5_13)
                exfalso
                first | omega | contradiction | exact absurd rfl ng5_13 | exact absurd ng5_13 (by simp) | exact absurd ng5_13 (by decide)
      · have ng3_3 := g3_3
        repeat (first | replace ng3_3 := yes ng3_3 | replace ng3_3 := no ng3_3 | replace ng3_3 := nyes ng3_3 | replace ng3_3 := nno ng3_3)
        refine OL.no g3_3 rfl rfl rfl ?_
        refine OL.no g3_3 rfl rfl rfl ?_
        refine OL.no g3_3 rfl rfl rfl ?_
        refine OL.q (Y.pickF rfl g3_3 rfl) rfl ?_
        refine OL.nil ?_
        refine EX.seq ?_
        refine CW.cond rfl (fun h1 => ?_) (fun h1 => ?_)
        · repeat (first | replace h1 := yes h1 | replace h1 := no h1 | replace h1 := nyes h1 | replace h1 := nno h1)
          exfalso
          first | omega | contradiction | exact absurd rfl h1 | exact absurd h1 (by simp) | exact absurd h1 (by decide)
        repeat (first | replace h1 := yes h1 | replace h1 := no h1 | replace h1 := nyes h1 | replace h1 := nno h1)
        refine CW.skip ?_
        refine EX.seq ?_
        refine CW.seq ?_
        refine CW.seq ?_
        refine CW.region ?_
        refine OL.q (Y.field L30_0 rfl) rfl ?_
        refine OL.q (Y.load T3 rfl (Ent.at 0 rfl (Up.cellIs _ _ _) (blk_cell rfl))) rfl ?_
        refine OL.q (Y.eql rfl rfl) rfl ?_
        refine OL.q (Y.move rfl) rfl ?_
        refine OL.guard (s := 24) rfl (fun g5_3 => ?_) (fun g5_3 => ?_)
        · have ng5_3 := g5_3
          repeat (first | replace ng5_3 := yes ng5_3 | replace ng5_3 := no ng5_3 | replace ng5_3 := nyes ng5_3 | replace ng5_3 := nno ng5_3)
          refine OL.on g5_3 rfl rfl ?_
          refine OL.q (Y.field L30_3 rfl) rfl ?_
          refine OL.on g5_3 rfl rfl ?_
          refine OL.q (Y.load T9 rfl (Ent.at 0 rfl (Up.cellIs _ _ _) (blk_cell rfl))) rfl ?_
          refine OL.on g5_3 rfl rfl ?_
          refine OL.call [] (isNumeral_any x.num) Tryd.call86 rfl rfl rfl rfl (Ent.nothing _) rfl ?_
          rintro _ _ ⟨rfl, rfl⟩
          refine ⟨rfl, rfl, ?_⟩
          refine OL.on g5_3 rfl rfl ?_
          refine OL.q (Y.not rfl) rfl ?_
          refine OL.q (Y.pickT rfl g5_3 rfl) rfl ?_
          refine OL.q (Y.move rfl) rfl ?_
          refine OL.guard (s := 30) rfl (fun g5_9 => ?_) (fun g5_9 => ?_)
          · have ng5_9 := g5_9
            repeat (first | replace ng5_9 := yes ng5_9 | replace ng5_9 := no ng5_9 | replace ng5_9 := nyes ng5_9 | replace ng5_9 := nno ng5_9)
            refine OL.no g5_9 rfl rfl rfl ?_
            refine OL.no g5_9 rfl rfl rfl ?_
            refine OL.no g5_9 rfl rfl rfl ?_
            refine OL.no g5_9 rfl rfl rfl ?_
            refine OL.dead rfl rfl rfl ?_
            refine OL.dead rfl rfl rfl ?_
            refine OL.dead rfl rfl rfl ?_
            refine OL.no g5_9 rfl rfl rfl ?_
            refine OL.q (Y.pickT rfl g5_9 rfl) rfl ?_
            refine OL.nil ?_
            refine EX.seq ?_
            refine CW.cond rfl (fun h2 => ?_) (fun h2 => ?_)
            rotate_left
            · repeat (first | replace h2 := yes h2 | replace h2 := no h2 | replace h2 := nyes h2 | replace h2 := nno h2)
              exfalso
              first | omega | contradiction | exact absurd rfl h2 | exact absurd h2 (by simp) | exact absurd h2 (by decide)
            repeat (first | replace h2 := yes h2 | replace h2 := no h2 | replace h2 := nyes h2 | replace h2 := nno h2)
            refine CW.seq ?_
            refine CW.region ?_
            refine OL.q (Y.assign rfl) rfl ?_
            refine OL.nil ?_
            refine EX.seq ?_
            refine CW.ret ?_
            refine EX.retT ?_
            exact EX.fin1 [] rfl rfl rfl ⟨by unfold headE; rw [if_neg (show ¬ (x.op < 1 ∨ 19 < x.op) by omega), if_neg (show ¬ (x.op ≠ 3 ∧ x.fn ≠ 0) by omega), if_pos (.inl ⟨ng5_3, ng5_9⟩)], rfl⟩
          · have ng5_9 := g5_9
            repeat (first | replace ng5_9 := yes ng5_9 | replace ng5_9 := no ng5_9 | replace ng5_9 := nyes ng5_9 | replace ng5_9 := nno ng5_9)
            refine OL.on g5_9 rfl rfl ?_
            refine OL.q (Y.field L30_0 rfl) rfl ?_
            refine OL.on g5_9 rfl rfl ?_
            refine OL.q (Y.load T3 rfl (Ent.at 0 rfl (Up.cellIs _ _ _) (blk_cell rfl))) rfl ?_
            refine OL.on g5_9 rfl rfl ?_
            refine OL.q (Y.neq rfl rfl) rfl ?_
            refine OL.on g5_9 rfl rfl ?_
            refine OL.q (Y.move rfl) rfl ?_
            refine OL.guard (s := 34) rfl (fun g5_13 => ?_) (fun g5_13 => ?_)
            · have ng5_13 := g5_13
              repeat (first | replace ng5_13 := yes ng5_13 | replace ng5_13 := no ng5_13 | replace ng5_13 := nyes ng5_13 | replace ng5_13 := nno ng5_13)
              exfalso
              first | omega | contradiction | exact absurd rfl ng5_13 | exact absurd ng5_13 (by simp) | exact absurd ng5_13 (by decide)
            · have ng5_13 := g5_13
              repeat (first | replace ng5_13 := yes ng5_13 | replace ng5_13 := no ng5_13 | replace ng5_13 := nyes ng5_13 | replace ng5_13 := nno ng5_13)
              refine OL.no g5_13 rfl rfl rfl ?_
              refine OL.no g5_13 rfl rfl rfl ?_
              refine OL.no g5_13 rfl rfl rfl ?_
              refine OL.on g5_9 rfl rfl ?_
              refine OL.q (Y.pickF rfl g5_13 rfl) rfl ?_
              refine OL.q (Y.pickF rfl g5_9 rfl) rfl ?_
              refine OL.nil ?_
              refine EX.seq ?_
              refine CW.cond rfl (fun h2 => ?_) (fun h2 => ?_)
              · repeat (first | replace h2 := yes h2 | replace h2 := no h2 | replace h2 := nyes h2 | replace h2 := nno h2)
                exfalso
                first | omega | contradiction | exact absurd rfl h2 | exact absurd h2 (by simp) | exact absurd h2 (by decide)
              repeat (first | replace h2 := yes h2 | replace h2 := no h2 | replace h2 := nyes h2 | replace h2 := nno h2)
              have k3 : ¬ ((x.op = 4 ∧ numB x.num = false) ∨ (x.op ≠ 4 ∧ x.num ≠ ⟨#[]⟩)) := by
                rintro (⟨_, h⟩ | ⟨h, _⟩)
                · rw [ng5_9] at h; cases h
                · exact h ng5_3
              refine CW.skip ?_
              refine EX.seq ?_
              refine CW.seq ?_
              refine CW.seq ?_
              refine CW.drawn [(true, 0), (true, 1), (true, 2), (true, 3), (true, 4), (true, 5), (true, 6), (true, 7), (true, 8), (true, 9), (true, 10), (true, 11), (true, 12), (true, 13), (true, 14), (true, 15), (true, 16), (true, 17)] [] [0] mixed (by kernel_rfl) (by repeat (first | exact PanicOk.body | refine PanicOk.then ?_ | refine PanicOk.block ?_)) (by kernel_rfl) rfl rfl rfl rfl ?_
              refine OL.qt (Y.field L30_0 rfl) rfl ?_
              refine OL.qt (Y.load T3 rfl (Ent.at 0 rfl (Up.cellIs _ _ _) (blk_cell rfl))) rfl ?_
              refine OL.qt (Y.eql rfl rfl) rfl ?_
              refine OL.qt (Y.move rfl) rfl ?_
              refine OL.guard (s := 43) rfl (fun g7_3 => ?_) (fun g7_3 => ?_)
              · have ng7_3 := g7_3
                repeat (first | replace ng7_3 := yes ng7_3 | replace ng7_3 := no ng7_3 | replace ng7_3 := nyes ng7_3 | replace ng7_3 := nno ng7_3)
                refine OL.ont g7_3 rfl rfl ?_
                refine OL.qt (Y.field L30_1 rfl) rfl ?_
                refine OL.ont g7_3 rfl rfl ?_
                refine OL.qt (Y.load T3 rfl (Ent.at 0 rfl (Up.cellIs _ _ _) (blk_cell rfl))) rfl ?_
                refine OL.ont g7_3 rfl rfl ?_
                refine OL.qt (Y.lss rfl rfl) rfl ?_
                refine OL.ont g7_3 rfl rfl ?_
                refine OL.qt (Y.move rfl) rfl ?_
                refine OL.guard (s := 47) rfl (fun g7_7 => ?_) (fun g7_7 => ?_)
                · have ng7_7 := g7_7
                  repeat (first | replace ng7_7 := yes ng7_7 | replace ng7_7 := no ng7_7 | replace ng7_7 := nyes ng7_7 | replace ng7_7 := nno ng7_7)
                  refine OL.tno g7_7 rfl rfl rfl ?_
                  refine OL.tno g7_7 rfl rfl rfl ?_
                  refine OL.tno g7_7 rfl rfl rfl ?_
                  refine OL.tno g7_7 rfl rfl rfl ?_
                  refine OL.tno g7_7 rfl rfl rfl ?_
                  refine OL.tno g7_7 rfl rfl rfl ?_
                  refine OL.tno g7_7 rfl rfl rfl ?_
                  refine OL.tno g7_7 rfl rfl rfl ?_
                  refine OL.ont g7_3 rfl rfl ?_
                  refine OL.qt (Y.pickT rfl g7_7 rfl) rfl ?_
                  refine OL.qt (Y.pickT rfl g7_3 rfl) rfl ?_
                  refine OL.nil ?_
                  refine EX.tail ?_
                  refine OL.nil ?_
                  refine EX.seq ?_
                  refine CW.cond rfl (fun h3 => ?_) (fun h3 => ?_)
                  rotate_left
                  · repeat (first | replace h3 := yes h3 | replace h3 := no h3 | replace h3 := nyes h3 | replace h3 := nno h3)
                    exfalso
                    first | omega | contradiction | exact absurd rfl h3 | exact absurd h3 (by simp) | exact absurd h3 (by decide)
                  repeat (first | replace h3 := yes h3 | replace h3 := no h3 | replace h3 := nyes h3 | replace h3 := nno h3)
                  refine CW.seq ?_
                  refine CW.region ?_
                  refine OL.q (Y.assign rfl) rfl ?_
                  refine OL.nil ?_
                  refine EX.seq ?_
                  refine CW.ret ?_
                  refine EX.retT ?_
                  exact EX.fin1 [] rfl rfl rfl ⟨by unfold headE; rw [if_neg (show ¬ (x.op < 1 ∨ 19 < x.op) by omega), if_neg (show ¬ (x.op ≠ 3 ∧ x.fn ≠ 0) by omega), if_neg k3, if_pos ⟨ng7_3, by unfold bad; simp; omega⟩], rfl⟩
                · have ng7_7 := g7_7
                  repeat (first | replace ng7_7 := yes ng7_7 | replace ng7_7 := no ng7_7 | replace ng7_7 := nyes ng7_7 | replace ng7_7 := nno ng7_7)
                  refine OL.ont g7_7 rfl rfl ?_
                  refine OL.qt (Y.field L30_1 rfl) rfl ?_
                  refine OL.ont g7_7 rfl rfl ?_
                  refine OL.qt (Y.load T3 rfl (Ent.at 0 rfl (Up.cellIs _ _ _) (blk_cell rfl))) rfl ?_
                  refine OL.ont g7_7 rfl rfl ?_
                  refine OL.qt (Y.move rfl) rfl ?_
                  refine OL.ont g7_7 rfl rfl ?_
                  refine OL.qt (Y.nilCheck rfl) rfl ?_
                  refine OL.ont g7_7 rfl rfl ?_
                  refine OL.qt (Y.field L97_3 rfl) rfl ?_
                  refine OL.ont g7_7 rfl rfl ?_
                  refine OL.qt (Y.load T55 rfl (Ent.via hF (Up.cellIs _ _ _) (Ent.at 0 rfl (Up.cellIs _ _ _) (blk_cell rfl)))) rfl ?_
                  refine OL.ont g7_7 rfl rfl ?_
                  refine OL.qt (Y.lenSl Tryd.underlying55 rfl) rfl ?_
                  refine OL.ont g7_7 rfl rfl ?_
                  refine OL.qt (Y.geq rfl rfl) rfl ?_
                  refine OL.ont g7_3 rfl rfl ?_
                  refine OL.qt (Y.pickF rfl g7_7 rfl) rfl ?_
                  refine OL.qt (Y.pickT rfl g7_3 rfl) rfl ?_
                  refine OL.nil ?_
                  refine EX.tail ?_
                  refine OL.nil ?_
                  refine EX.seq ?_
                  refine CW.cond rfl (fun h3 => ?_) (fun h3 => ?_)
                  · repeat (first | replace h3 := yes h3 | replace h3 := no h3 | replace h3 := nyes h3 | replace h3 := nno h3)
                    refine CW.seq ?_
                    refine CW.region ?_
                    refine OL.q (Y.assign rfl) rfl ?_
                    refine OL.nil ?_
                    refine EX.seq ?_
                    refine CW.ret ?_
                    refine EX.retT ?_
                    exact EX.fin1 [] rfl rfl rfl ⟨by unfold headE; rw [if_neg (show ¬ (x.op < 1 ∨ 19 < x.op) by omega), if_neg (show ¬ (x.op ≠ 3 ∧ x.fn ≠ 0) by omega), if_neg k3, if_pos ⟨ng7_3, by unfold bad; simp; omega⟩], rfl⟩
                  · repeat (first | replace h3 := yes h3 | replace h3 := no h3 | replace h3 := nyes h3 | replace h3 := nno h3)
                    refine CW.skip ?_
                    refine EX.seq ?_
                    refine CW.seq ?_
                    refine CW.region ?_
                    refine OL.q (Y.assign rfl) rfl ?_
                    refine OL.nil ?_
                    refine EX.seq ?_
                    refine CW.ret ?_
                    exact EX.fin1 [] rfl rfl rfl ⟨by unfold headE; rw [if_neg (show ¬ (x.op < 1 ∨ 19 < x.op) by omega), if_neg (show ¬ (x.op ≠ 3 ∧ x.fn ≠ 0) by omega), if_neg k3, if_neg (fun q => by have := q.2; unfold bad at this; simp at this; omega)], rfl⟩
              · have ng7_3 := g7_3
                repeat (first | replace ng7_3 := yes ng7_3 | replace ng7_3 := no ng7_3 | replace ng7_3 := nyes ng7_3 | replace ng7_3 := nno ng7_3)
                refine OL.tno g7_3 rfl rfl rfl ?_
                refine OL.tno g7_3 rfl rfl rfl ?_
                refine OL.tno g7_3 rfl rfl rfl ?_
                refine OL.tno g7_3 rfl rfl rfl ?_
                refine OL.tdead rfl rfl rfl ?_
                refine OL.tdead rfl rfl rfl ?_
                refine OL.tdead rfl rfl rfl ?_
                refine OL.tdead rfl rfl rfl ?_
                refine OL.tdead rfl rfl rfl ?_
                refine OL.tdead rfl rfl rfl ?_
                refine OL.tdead rfl rfl rfl ?_
                refine OL.tdead rfl rfl rfl ?_
                refine OL.tno g7_3 rfl rfl rfl ?_
                refine OL.qt (Y.pickF rfl g7_3 rfl) rfl ?_
                refine OL.nil ?_
                refine EX.tail ?_
                refine OL.nil ?_
                refine EX.seq ?_
                refine CW.cond rfl (fun h3 => ?_) (fun h3 => ?_)
                · repeat (first | replace h3 := yes h3 | replace h3 := no h3 | replace h3 := nyes h3 | replace h3 := nno h3)
                  exfalso
                  first | omega | contradiction | exact absurd rfl h3 | exact absurd h3 (by simp) | exact absurd h3 (by decide)
                repeat (first | replace h3 := yes h3 | replace h3 := no h3 | replace h3 := nyes h3 | replace h3 := nno h3)
                refine CW.skip ?_
                refine EX.seq ?_
                refine CW.seq ?_
                refine CW.region ?_
                refine OL.q (Y.assign rfl) rfl ?_
                refine OL.nil ?_
                refine EX.seq ?_
                refine CW.ret ?_
                exact EX.fin1 [] rfl rfl rfl ⟨by unfold headE; rw [if_neg (show ¬ (x.op < 1 ∨ 19 < x.op) by omega), if_neg (show ¬ (x.op ≠ 3 ∧ x.fn ≠ 0) by omega), if_neg k3, if_neg (fun q => ng7_3 q.1)], rfl⟩
        · have ng5_3 := g5_3
          repeat (first | replace ng5_3 := yes ng5_3 | replace ng5_3 := no ng5_3 | replace ng5_3 := nyes ng5_3 | replace ng5_3 := nno ng5_3)
          refine OL.no g5_3 rfl rfl rfl ?_
          refine OL.no g5_3 rfl rfl rfl ?_
          refine OL.no g5_3 rfl rfl rfl ?_
          refine OL.no g5_3 rfl rfl rfl ?_
          refine OL.q (Y.pickF rfl g5_3 rfl) rfl ?_
          refine OL.q (Y.move rfl) rfl ?_
          refine OL.guard (s := 30) rfl (fun g5_9 => ?_) (fun g5_9 => ?_)
          · have ng5_9 := g5_9
            repeat (first | replace ng5_9 := yes ng5_9 | replace ng5_9 := no ng5_9 | replace ng5_9 := nyes ng5_9 | replace ng5_9 := nno ng5_9)
            exfalso
            first | omega | contradiction | exact absurd rfl ng5_9 | exact absurd ng5_9 (by simp) | exact absurd ng5_9 (by decide)
          · have ng5_9 := g5_9
            repeat (first | replace ng5_9 := yes ng5_9 | replace ng5_9 := no ng5_9 | replace ng5_9 := nyes ng5_9 | replace ng5_9 := nno ng5_9)
            refine OL.on g5_9 rfl rfl ?_
            refine OL.q (Y.field L30_0 rfl) rfl ?_
            refine OL.on g5_9 rfl rfl ?_
            refine OL.q (Y.load T3 rfl (Ent.at 0 rfl (Up.cellIs _ _ _) (blk_cell rfl))) rfl ?_
            refine OL.on g5_9 rfl rfl ?_
            refine OL.q (Y.neq rfl rfl) rfl ?_
            refine OL.on g5_9 rfl rfl ?_
            refine OL.q (Y.move rfl) rfl ?_
            refine OL.guard (s := 34) rfl (fun g5_13 => ?_) (fun g5_13 => ?_)
            · have ng5_13 := g5_13
              repeat (first | replace ng5_13 := yes ng5_13 | replace ng5_13 := no ng5_13 | replace ng5_13 := nyes ng5_13 | replace ng5_13 := nno ng5_13)
              refine OL.on g5_13 rfl rfl ?_
              refine OL.q (Y.field L30_3 rfl) rfl ?_
              refine OL.on g5_13 rfl rfl ?_
              refine OL.q (Y.load T9 rfl (Ent.at 0 rfl (Up.cellIs _ _ _) (blk_cell rfl))) rfl ?_
              refine OL.on g5_13 rfl rfl ?_
              refine OL.q (Y.neqS rfl rfl) rfl ?_
              refine OL.on g5_9 rfl rfl ?_
              refine OL.q (Y.pickT rfl g5_13 rfl) rfl ?_
              refine OL.q (Y.pickF rfl g5_9 rfl) rfl ?_
              refine OL.nil ?_
              refine EX.seq ?_
              refine CW.cond rfl (fun h2 => ?_) (fun h2 => ?_)
              · repeat (first | replace h2 := yes h2 | replace h2 := no h2 | replace h2 := nyes h2 | replace h2 := nno h2)
                refine CW.seq ?_
                refine CW.region ?_
                refine OL.q (Y.assign rfl) rfl ?_
                refine OL.nil ?_
                refine EX.seq ?_
                refine CW.ret ?_
                refine EX.retT ?_
                exact EX.fin1 [] rfl rfl rfl ⟨by unfold headE; rw [if_neg (show ¬ (x.op < 1 ∨ 19 < x.op) by omega), if_neg (show ¬ (x.op ≠ 3 ∧ x.fn ≠ 0) by omega), if_pos (.inr ⟨ng5_3, h2⟩)], rfl⟩
              · repeat (first | replace h2 := yes h2 | replace h2 := no h2 | replace h2 := nyes h2 | replace h2 := nno h2)
                have k3 : ¬ ((x.op = 4 ∧ numB x.num = false) ∨ (x.op ≠ 4 ∧ x.num ≠ ⟨#[]⟩)) := by
                  rintro (⟨h, _⟩ | ⟨_, h⟩)
                  · exact ng5_3 h
                  · exact h2 h
                refine CW.skip ?_
                refine EX.seq ?_
                refine CW.seq ?_
                refine CW.seq ?_
                refine CW.drawn [(true, 0), (true, 1), (true, 2), (true, 3), (true, 4), (true, 5), (true, 6), (true, 7), (true, 8), (true, 9), (true, 10), (true, 11), (true, 12), (true, 13), (true, 14), (true, 15), (true, 16), (true, 17)] [] [0] mixed (by kernel_rfl) (by repeat (first | exact PanicOk.body | refine PanicOk.then ?_ | refine PanicOk.block ?_)) (by kernel_rfl) rfl rfl rfl rfl ?_
                refine OL.qt (Y.field L30_0 rfl) rfl ?_
                refine OL.qt (Y.load T3 rfl (Ent.at 0 rfl (Up.cellIs _ _ _) (blk_cell rfl))) rfl ?_
                refine OL.qt (Y.eql rfl rfl) rfl ?_
                refine OL.qt (Y.move rfl) rfl ?_
                refine OL.guard (s := 43) rfl (fun g7_3 => ?_) (fun g7_3 => ?_)
                · have ng7_3 := g7_3
                  repeat (first | replace ng7_3 := yes ng7_3 | replace ng7_3 := no ng7_3 | replace ng7_3 := nyes ng7_3 | replace ng7_3 := nno ng7_3)
                  refine OL.ont g7_3 rfl rfl ?_
                  refine OL.qt (Y.field L30_1 rfl) rfl ?_
                  refine OL.ont g7_3 rfl rfl ?_
                  refine OL.qt (Y.load T3 rfl (Ent.at 0 rfl (Up.cellIs _ _ _) (blk_cell rfl))) rfl ?_
                  refine OL.ont g7_3 rfl rfl ?_
                  refine OL.qt (Y.lss rfl rfl) rfl ?_
                  refine OL.ont g7_3 rfl rfl ?_
                  refine OL.qt (Y.move rfl) rfl ?_
                  refine OL.guard (s := 47) rfl (fun g7_7 => ?_) (fun g7_7 => ?_)
                  · have ng7_7 := g7_7
                    repeat (first | replace ng7_7 := yes ng7_7 | replace ng7_7 := no ng7_7 | replace ng7_7 := nyes ng7_7 | replace ng7_7 := nno ng7_7)
                    refine OL.tno g7_7 rfl rfl rfl ?_
                    refine OL.tno g7_7 rfl rfl rfl ?_
                    refine OL.tno g7_7 rfl rfl rfl ?_
                    refine OL.tno g7_7 rfl rfl rfl ?_
                    refine OL.tno g7_7 rfl rfl rfl ?_
                    refine OL.tno g7_7 rfl rfl rfl ?_
                    refine OL.tno g7_7 rfl rfl rfl ?_
                    refine OL.tno g7_7 rfl rfl rfl ?_
                    refine OL.ont g7_3 rfl rfl ?_
                    refine OL.qt (Y.pickT rfl g7_7 rfl) rfl ?_
                    refine OL.qt (Y.pickT rfl g7_3 rfl) rfl ?_
                    refine OL.nil ?_
                    refine EX.tail ?_
                    refine OL.nil ?_
                    refine EX.seq ?_
                    refine CW.cond rfl (fun h3 => ?_) (fun h3 => ?_)
                    rotate_left
                    · repeat (first | replace h3 := yes h3 | replace h3 := no h3 | replace h3 := nyes h3 | replace h3 := nno h3)
                      exfalso
                      first | omega | contradiction | exact absurd rfl h3 | exact absurd h3 (by simp) | exact absurd h3 (by decide)
                    repeat (first | replace h3 := yes h3 | replace h3 := no h3 | replace h3 := nyes h3 | replace h3 := nno h3)
                    refine CW.seq ?_
                    refine CW.region ?_
                    refine OL.q (Y.assign rfl) rfl ?_
                    refine OL.nil ?_
                    refine EX.seq ?_
                    refine CW.ret ?_
                    refine EX.retT ?_
                    exact EX.fin1 [] rfl rfl rfl ⟨by unfold headE; rw [if_neg (show ¬ (x.op < 1 ∨ 19 < x.op) by omega), if_neg (show ¬ (x.op ≠ 3 ∧ x.fn ≠ 0) by omega), if_neg k3, if_pos ⟨ng7_3, by unfold bad; simp; omega⟩], rfl⟩
                  · have ng7_7 := g7_7
                    repeat (first | replace ng7_7 := yes ng7_7 | replace ng7_7 := no ng7_7 | replace ng7_7 := nyes ng7_7 | replace ng7_7 := nno ng7_7)
                    refine OL.ont g7_7 rfl rfl ?_
                    refine OL.qt (Y.field L30_1 rfl) rfl ?_
                    refine OL.ont g7_7 rfl rfl ?_
                    refine OL.qt (Y.load T3 rfl (Ent.at 0 rfl (Up.cellIs _ _ _) (blk_cell rfl))) rfl ?_
                    refine OL.ont g7_7 rfl rfl ?_
                    refine OL.qt (Y.move rfl) rfl ?_
                    refine OL.ont g7_7 rfl rfl ?_
                    refine OL.qt (Y.nilCheck rfl) rfl ?_
                    refine OL.ont g7_7 rfl rfl ?_
                    refine OL.qt (Y.field L97_3 rfl) rfl ?_
                    refine OL.ont g7_7 rfl rfl ?_
                    refine OL.qt (Y.load T55 rfl (Ent.via hF (Up.cellIs _ _ _) (Ent.at 0 rfl (Up.cellIs _ _ _) (blk_cell rfl)))) rfl ?_
                    refine OL.ont g7_7 rfl rfl ?_
                    refine OL.qt (Y.lenSl Tryd.underlying55 rfl) rfl ?_
                    refine OL.ont g7_7 rfl rfl ?_
                    refine OL.qt (Y.geq rfl rfl) rfl ?_
                    refine OL.ont g7_3 rfl rfl ?_
                    refine OL.qt (Y.pickF rfl g7_7 rfl) rfl ?_
                    refine OL.qt (Y.pickT rfl g7_3 rfl) rfl ?_
                    refine OL.nil ?_
                    refine EX.tail ?_
                    refine OL.nil ?_
                    refine EX.seq ?_
                    refine CW.cond rfl (fun h3 => ?_) (fun h3 => ?_)
                    · repeat (first | replace h3 := yes h3 | replace h3 := no h3 | replace h3 := nyes h3 | replace h3 := nno h3)
                      refine CW.seq ?_
                      refine CW.region ?_
                      refine OL.q (Y.assign rfl) rfl ?_
                      refine OL.nil ?_
                      refine EX.seq ?_
                      refine CW.ret ?_
                      refine EX.retT ?_
                      exact EX.fin1 [] rfl rfl rfl ⟨by unfold headE; rw [if_neg (show ¬ (x.op < 1 ∨ 19 < x.op) by omega), if_neg (show ¬ (x.op ≠ 3 ∧ x.fn ≠ 0) by omega), if_neg k3, if_pos ⟨ng7_3, by unfold bad; simp; omega⟩], rfl⟩
                    · repeat (first | replace h3 := yes h3 | replace h3 := no h3 | replace h3 := nyes h3 | replace h3 := nno h3)
                      refine CW.skip ?_
                      refine EX.seq ?_
                      refine CW.seq ?_
                      refine CW.region ?_
                      refine OL.q (Y.assign rfl) rfl ?_
                      refine OL.nil ?_
                      refine EX.seq ?_
                      refine CW.ret ?_
                      exact EX.fin1 [] rfl rfl rfl ⟨by unfold headE; rw [if_neg (show ¬ (x.op < 1 ∨ 19 < x.op) by omega), if_neg (show ¬ (x.op ≠ 3 ∧ x.fn ≠ 0) by omega), if_neg k3, if_neg (fun q => by have := q.2; unfold bad at this; simp at this; omega)], rfl⟩
                · have ng7_3 := g7_3
                  repeat (first | replace ng7_3 := yes ng7_3 | replace ng7_3 := no ng7_3 | replace ng7_3 := nyes ng7_3 | replace ng7_3 := nno ng7_3)
                  refine OL.tno g7_3 rfl rfl rfl ?_
                  refine OL.tno g7_3 rfl rfl rfl ?_
                  refine OL.tno g7_3 rfl rfl rfl ?_
                  refine OL.tno g7_3 rfl rfl rfl ?_
                  refine OL.tdead rfl rfl rfl ?_
                  refine OL.tdead rfl rfl rfl ?_
                  refine OL.tdead rfl rfl rfl ?_
                  refine OL.tdead rfl rfl rfl ?_
                  refine OL.tdead rfl rfl rfl ?_
                  refine OL.tdead rfl rfl rfl ?_
                  refine OL.tdead rfl rfl rfl ?_
                  refine OL.tdead rfl rfl rfl ?_
                  refine OL.tno g7_3 rfl rfl rfl ?_
                  refine OL.qt (Y.pickF rfl g7_3 rfl) rfl ?_
                  refine OL.nil ?_
                  refine EX.tail ?_
                  refine OL.nil ?_
                  refine EX.seq ?_
                  refine CW.cond rfl (fun h3 => ?_) (fun h3 => ?_)
                  · repeat (first | replace h3 := yes h3 | replace h3 := no h3 | replace h3 := nyes h3 | replace h3 := nno h3)
                    exfalso
                    first | omega | contradiction | exact absurd rfl h3 | exact absurd h3 (by simp) | exact absurd h3 (by decide)
                  repeat (first | replace h3 := yes h3 | replace h3 := no h3 | replace h3 := nyes h3 | replace h3 := nno h3)
                  refine CW.skip ?_
                  refine EX.seq ?_
                  refine CW.seq ?_
                  refine CW.region ?_
                  refine OL.q (Y.assign rfl) rfl ?_
                  refine OL.nil ?_
                  refine EX.seq ?_
                  refine CW.ret ?_
                  exact EX.fin1 [] rfl rfl rfl ⟨by unfold headE; rw [if_neg (show ¬ (x.op < 1 ∨ 19 < x.op) by omega), if_neg (show ¬ (x.op ≠ 3 ∧ x.fn ≠ 0) by omega), if_neg k3, if_neg (fun q => ng7_3 q.1)], rfl⟩
            · have ng5_13 := g5_13
              repeat (first | replace ng5_13 := yes ng5_13 | replace ng5_13 := no ng5_13 | replace ng5_13 := nyes ng5_13 | replace ng5_13 := nno ng5_13)
              exfalso
              first | omega | contradiction | exact absurd rfl ng5_13 | exact absurd ng5_13 (by simp) | exact absurd ng5_13 (by decide)

theorem wrongKids_any (t : Nat) (S : DagS) (v : DagV) (M : PH) (hS : DagOk M S v) (x : TermC) (hxl : x.kids.length = x.n) (hn : x.n ≤ 1000000) :
    FS Tryd.prog 57 [.pointer (some ⟨t, 0, none⟩), termVal x] (dagK t S v M x) [] (fun r H => r = .int .i64 (kidsE S x) ∧ H = []) := by
  refine FS.intro (N := 26) Tryd.func57 rfl rfl rfl (fun F w0 hF => ?_)
  have hK : Ent F (rd x.a x.n 1 (x.kids.map intCells)) := fun h hs => (hF h hs).2
  have hF0 := hF
  replace hF : Ent F (fun h => sl (dagR t S v M) h) := fun h hs => (hF0 h hs).1
  refine CW.seq ?_
  refine CW.region ?_
  refine OL.box rfl rfl rfl (fun b3 => ⟨rfl, rfl, ?_⟩)
  refine OL.q (Y.assign rfl) rfl ?_
  refine OL.nil ?_
  refine EX.seq ?_
  refine CW.seq ?_
  refine CW.seq ?_
  refine CW.region ?_
  refine OL.q (Y.field L30_2 rfl) rfl ?_
  refine OL.q (Y.load T28 rfl (Ent.at 0 rfl (Up.cellIs _ _ _) (blk_cell rfl))) rfl ?_
  refine OL.q (Y.lenSl Tryd.underlying28 rfl) rfl ?_
  refine OL.q (Y.move rfl) rfl ?_
  refine OL.nil ?_
  refine EX.seq ?_
  refine CW.block ?_
  refine CW.loop (α := Nat) ⟨fun k => k ≤ x.n ∧ (x.kids.take k).any (bad v.tn) = false, fun k => [(0, .pointer (some ⟨t, 0, none⟩)), (8, .slice x.a x.n x.c), (9, .int .i64 x.n), (10, .int .i64 k)], fun _ => []⟩
    (fun k => x.n - k) 0 [] ⟨Nat.zero_le _, rfl⟩ ⟨rfl, rfl, rfl, rfl, trivial⟩ rfl rfl ?_
  rintro k ⟨hk, hb⟩
  dsimp only at hk hb ⊢
  refine CW.seq ?_
  refine CW.region ?_
  refine OL.q (Y.lss rfl rfl) rfl ?_
  refine OL.nil ?_
  refine EX.seq ?_
  refine CW.seq ?_
  refine CW.cond rfl (fun h0 => ?_) (fun h0 => ?_)
  · repeat (first | replace h0 := yes h0 | replace h0 := no h0 | replace h0 := nyes h0 | replace h0 := nno h0)
    obtain ⟨z, hp⟩ : ∃ p, x.kids[k]? = some p := ⟨_, List.getElem?_eq_getElem (by omega)⟩
    refine CW.skip ?_
    refine EX.seq ?_
    refine CW.seq ?_
    refine CW.block ?_
    refine CW.seq ?_
    refine CW.region ?_
    refine OL.q (Y.index (k := k) Tryd.underlying28 C3 rfl rfl (Ent.frame (Up.rd _ _ _ _) hK) (by omega) (by omega)) rfl ?_
    refine OL.q (Y.load T3 rfl (cellsIs_at0 (rd_at (Ent.frame (Up.rd _ _ _ _) hK) (mget intCells hp)) rfl)) rfl ?_
    refine OL.q (Y.assign rfl) rfl ?_
    refine OL.nil ?_
    refine EX.seq ?_
    refine CW.seq ?_
    refine CW.region ?_
    refine OL.q (Y.move rfl) rfl ?_
    refine OL.q (Y.lss rfl rfl) rfl ?_
    refine OL.q (Y.move rfl) rfl ?_
    refine OL.guard (s := 16) rfl (fun g4_2 => ?_) (fun g4_2 => ?_)
    · have ng4_2 := g4_2
      repeat (first | replace ng4_2 := yes ng4_2 | replace ng4_2 := no ng4_2 | replace ng4_2 := nyes ng4_2 | replace ng4_2 := nno ng4_2)
      refine OL.no g4_2 rfl rfl rfl ?_
      refine OL.no g4_2 rfl rfl rfl ?_
      refine OL.no g4_2 rfl rfl rfl ?_
      refine OL.no g4_2 rfl rfl rfl ?_
      refine OL.no g4_2 rfl rfl rfl ?_
      refine OL.no g4_2 rfl rfl rfl ?_
      refine OL.no g4_2 rfl rfl rfl ?_
      refine OL.q (Y.pickT rfl g4_2 rfl) rfl ?_
      refine OL.nil ?_
      refine EX.seq ?_
      refine CW.cond rfl (fun h1 => ?_) (fun h1 => ?_)
      rotate_left
      · repeat (first | replace h1 := yes h1 | replace h1 := no h1 | replace h1 := nyes h1 | replace h1 := nno h1)
        exfalso
        first | omega | contradiction | exact absurd rfl h1 | exact absurd h1 (by simp) | exact absurd h1 (by decide)
      repeat (first | replace h1 := yes h1 | replace h1 := no h1 | replace h1 := nyes h1 | replace h1 := nno h1)
      refine CW.seq ?_
      refine CW.region ?_
      refine OL.q (Y.assign rfl) rfl ?_
      refine OL.nil ?_
      refine EX.seq ?_
      refine CW.ret ?_
      refine EX.retB ?_
      refine EX.retT ?_
      refine EX.retT ?_
      refine EX.retB ?_
      refine EX.retT ?_
      have hb2 : x.kids.any (bad S.terms.length) = true := any_mem (mem_of hp) (by rw [hS.tn]; unfold bad; simp [ng4_2])
      exact EX.fin1 [] rfl rfl rfl ⟨by unfold kidsE; rw [hb2]; rfl, rfl⟩
    · have ng4_2 := g4_2
      repeat (first | replace ng4_2 := yes ng4_2 | replace ng4_2 := no ng4_2 | replace ng4_2 := nyes ng4_2 | replace ng4_2 := nno ng4_2)
      refine OL.on g4_2 rfl rfl ?_
      refine OL.q (Y.move rfl) rfl ?_
      refine OL.on g4_2 rfl rfl ?_
      refine OL.q (Y.move rfl) rfl ?_
      refine OL.on g4_2 rfl rfl ?_
      refine OL.q (Y.nilCheck rfl) rfl ?_
      refine OL.on g4_2 rfl rfl ?_
      refine OL.q (Y.field L97_4 rfl) rfl ?_
      refine OL.on g4_2 rfl rfl ?_
      refine OL.q (Y.load T60 rfl (Ent.via hF (Up.cellIs _ _ _) (Ent.at 0 rfl (Up.cellIs _ _ _) (blk_cell rfl)))) rfl ?_
      refine OL.on g4_2 rfl rfl ?_
      refine OL.q (Y.lenSl Tryd.underlying60 rfl) rfl ?_
      refine OL.on g4_2 rfl rfl ?_
      refine OL.q (Y.geq rfl rfl) rfl ?_
      refine OL.q (Y.pickF rfl g4_2 rfl) rfl ?_
      refine OL.nil ?_
      refine EX.seq ?_
      refine CW.cond rfl (fun h1 => ?_) (fun h1 => ?_)
      · repeat (first | replace h1 := yes h1 | replace h1 := no h1 | replace h1 := nyes h1 | replace h1 := nno h1)
        refine CW.seq ?_
        refine CW.region ?_
        refine OL.q (Y.assign rfl) rfl ?_
        refine OL.nil ?_
        refine EX.seq ?_
        refine CW.ret ?_
        refine EX.retB ?_
        refine EX.retT ?_
        refine EX.retT ?_
        refine EX.retB ?_
        refine EX.retT ?_
        have hb2 : x.kids.any (bad S.terms.length) = true := any_mem (mem_of hp) (by rw [hS.tn]; unfold bad; simp; omega)
        exact EX.fin1 [] rfl rfl rfl ⟨by unfold kidsE; rw [hb2]; rfl, rfl⟩
      · repeat (first | replace h1 := yes h1 | replace h1 := no h1 | replace h1 := nyes h1 | replace h1 := nno h1)
        refine CW.skip ?_
        refine EX.norB ?_
        refine EX.seq ?_
        refine CW.region ?_
        refine OL.q (Y.add1 rfl rfl rfl (by omega)) rfl ?_
        refine OL.q (Y.move rfl) rfl ?_
        refine OL.nil ?_
        exact EX.next (k + 1) [] (show k + 1 ≤ x.n ∧ _ from ⟨by omega, by rw [any_take hp, hb, bad_false.2 ⟨by omega, by omega⟩]; rfl⟩) (show x.n - (k + 1) < x.n - k by omega) ⟨rfl, rfl, rfl, rfl, trivial⟩ rfl rfl
  · repeat (first | replace h0 := yes h0 | replace h0 := no h0 | replace h0 := nyes h0 | replace h0 := nno h0)
    refine CW.exit ?_
    refine EX.exitT ?_
    refine EX.exitT ?_
    refine EX.exitB ?_
    refine EX.seq ?_
    refine CW.seq ?_
    refine CW.region ?_
    refine OL.q (Y.assign rfl) rfl ?_
    refine OL.nil ?_
    refine EX.seq ?_
    refine CW.ret ?_
    have hkn : k = x.n := by omega
    subst hkn
    rw [List.take_of_length_le (by omega), ← hS.tn] at hb
    exact EX.fin1 [] rfl rfl rfl ⟨by unfold kidsE; rw [hb]; rfl, rfl⟩


theorem getD_at {α : Type _} {l : List α} {k : Nat} {x d : α} (h : l[k]? = some x) : l.getD k d = x := by simp [List.getD_eq_getElem?_getD, h]
theorem funAt_is {S : DagS} {k : Nat} {f : FunC} (h : S.funs[k]? = some f) : funAt S k = f := getD_at h
theorem bad_nat {n : Nat} {k : Int} (h : bad n k = false) : ∃ m : Nat, k = m ∧ m < n := by
  obtain ⟨h1, h2⟩ := bad_false.1 h
  obtain ⟨m, rfl⟩ := Int.eq_ofNat_of_zero_le h1
  exact ⟨m, rfl, by omega⟩


theorem wrongCount_any (t : Nat) (S : DagS) (v : DagV) (M : PH) (hS : DagOk M S v) (x : TermC) (hxl : x.kids.length = x.n) (hn : x.n ≤ 1000000) (hf : x.op = 3 → bad v.fn x.fn = false) :
    FS Tryd.prog 58 [.pointer (some ⟨t, 0, none⟩), termVal x] (dagK t S v M x) [] (fun r H => r = .int .i64 (countE S x) ∧ H = []) := by
  refine FS.intro (N := 48) Tryd.func58 rfl rfl rfl (fun F w0 hF => ?_)
  have hK : Ent F (rd x.a x.n 1 (x.kids.map intCells)) := fun h hs => (hF h hs).2
  have hF0 := hF
  replace hF : Ent F (fun h => sl (dagR t S v M) h) := fun h hs => (hF0 h hs).1
  refine CW.seq ?_
  refine CW.region ?_
  refine OL.box rfl rfl rfl (fun b3 => ⟨rfl, rfl, ?_⟩)
  refine OL.q (Y.assign rfl) rfl ?_
  refine OL.nil ?_
  refine EX.seq ?_
  refine CW.seq ?_
  refine CW.region ?_
  refine OL.q (Y.field L30_2 rfl) rfl ?_
  refine OL.q (Y.load T28 rfl (Ent.at 0 rfl (Up.cellIs _ _ _) (blk_cell rfl))) rfl ?_
  refine OL.q (Y.lenSl Tryd.underlying28 rfl) rfl ?_
  refine OL.q (Y.assign rfl) rfl ?_
  refine OL.q (Y.assign rfl) rfl ?_
  refine OL.nil ?_
  refine EX.seq ?_
  refine CW.seq ?_
  refine CW.seq ?_
  refine CW.region ?_
  refine OL.q (Y.field L30_0 rfl) rfl ?_
  refine OL.q (Y.load T3 rfl (Ent.at 0 rfl (Up.cellIs _ _ _) (blk_cell rfl))) rfl ?_
  refine OL.nil ?_
  refine EX.seq ?_
  refine CW.block ?_
  refine CW.seq ?_
  refine CW.seq ?_
  refine CW.region ?_
  refine OL.q (Y.eql rfl rfl) rfl ?_
  refine OL.q (Y.assign rfl) rfl ?_
  refine OL.nil ?_
  refine EX.seq ?_
  refine CW.cond rfl (fun h0 => ?_) (fun h0 => ?_)
  · repeat (first | replace h0 := yes h0 | replace h0 := no h0 | replace h0 := nyes h0 | replace h0 := nno h0)
    refine CW.skip ?_
    refine EX.seq ?_
    refine CW.cond rfl (fun h2 => ?_) (fun h2 => ?_)
    rotate_left
    · repeat (first | replace h2 := yes h2 | replace h2 := no h2 | replace h2 := nyes h2 | replace h2 := nno h2)
      exfalso
      first | omega | contradiction | exact absurd rfl h2 | exact absurd h2 (by simp) | exact absurd h2 (by decide)
    repeat (first | replace h2 := yes h2 | replace h2 := no h2 | replace h2 := nyes h2 | replace h2 := nno h2)
    refine CW.region ?_
    refine OL.q (Y.move rfl) rfl ?_
    refine OL.q (Y.eql rfl rfl) rfl ?_
    refine OL.q (Y.assign rfl) rfl ?_
    refine OL.nil ?_
    refine EX.norB ?_
    refine EX.seq ?_
    refine CW.seq ?_
    refine CW.seq ?_
    refine CW.region ?_
    refine OL.q (Y.move rfl) rfl ?_
    refine OL.q (Y.not rfl) rfl ?_
    refine OL.nil ?_
    refine EX.seq ?_
    refine CW.cond rfl (fun h7 => ?_) (fun h7 => ?_)
    · repeat (first | replace h7 := yes h7 | replace h7 := no h7 | replace h7 := nyes h7 | replace h7 := nno h7)
      refine CW.seq ?_
      refine CW.region ?_
      refine OL.q (Y.assign rfl) rfl ?_
      refine OL.nil ?_
      refine EX.seq ?_
      refine CW.ret ?_
      refine EX.retT ?_
      have hr : rightB x.op x.kids.length (funAt S x.fn).args.length = false := by
        unfold rightB
        (repeat' split) <;> first | (exfalso; omega) | exact decide_eq_false (by omega)
      exact EX.fin1 [] rfl rfl rfl ⟨by unfold countE; rw [hr]; rfl, rfl⟩
    · repeat (first | replace h7 := yes h7 | replace h7 := no h7 | replace h7 := nyes h7 | replace h7 := nno h7)
      refine CW.skip ?_
      refine EX.seq ?_
      refine CW.seq ?_
      refine CW.region ?_
      refine OL.q (Y.assign rfl) rfl ?_
      refine OL.nil ?_
      refine EX.seq ?_
      refine CW.ret ?_
      have hr : rightB x.op x.kids.length (funAt S x.fn).args.length = true := by
        unfold rightB
        (repeat' split) <;> first | (exfalso; omega) | exact decide_eq_true (by omega)
      exact EX.fin1 [] rfl rfl rfl ⟨by unfold countE; rw [hr]; rfl, rfl⟩
  · repeat (first | replace h0 := yes h0 | replace h0 := no h0 | replace h0 := nyes h0 | replace h0 := nno h0)
    refine CW.seq ?_
    refine CW.region ?_
    refine OL.q (Y.eql rfl rfl) rfl ?_
    refine OL.q (Y.assign rfl) rfl ?_
    refine OL.nil ?_
    refine EX.seq ?_
    refine CW.cond rfl (fun h1 => ?_) (fun h1 => ?_)
    · repeat (first | replace h1 := yes h1 | replace h1 := no h1 | replace h1 := nyes h1 | replace h1 := nno h1)
      refine CW.skip ?_
      refine EX.seq ?_
      refine CW.cond rfl (fun h2 => ?_) (fun h2 => ?_)
      rotate_left
      · repeat (first | replace h2 := yes h2 | replace h2 := no h2 | replace h2 := nyes h2 | replace h2 := nno h2)
        exfalso
        first | omega | contradiction | exact absurd rfl h2 | exact absurd h2 (by simp) | exact absurd h2 (by decide)
      repeat (first | replace h2 := yes h2 | replace h2 := no h2 | replace h2 := nyes h2 | replace h2 := nno h2)
      refine CW.region ?_
      refine OL.q (Y.move rfl) rfl ?_
      refine OL.q (Y.eql rfl rfl) rfl ?_
      refine OL.q (Y.assign rfl) rfl ?_
      refine OL.nil ?_
      refine EX.norB ?_
      refine EX.seq ?_
      refine CW.seq ?_
      refine CW.seq ?_
      refine CW.region ?_
      refine OL.q (Y.move rfl) rfl ?_
      refine OL.q (Y.not rfl) rfl ?_
      refine OL.nil ?_
      refine EX.seq ?_
      refine CW.cond rfl (fun h7 => ?_) (fun h7 => ?_)
      · repeat (first | replace h7 := yes h7 | replace h7 := no h7 | replace h7 := nyes h7 | replace h7 := nno h7)
        refine CW.seq ?_
        refine CW.region ?_
        refine OL.q (Y.assign rfl) rfl ?_
        refine OL.nil ?_
        refine EX.seq ?_
        refine CW.ret ?_
        refine EX.retT ?_
        have hr : rightB x.op x.kids.length (funAt S x.fn).args.length = false := by
          unfold rightB
          (repeat' split) <;> first | (exfalso; omega) | exact decide_eq_false (by omega)
        exact EX.fin1 [] rfl rfl rfl ⟨by unfold countE; rw [hr]; rfl, rfl⟩
      · repeat (first | replace h7 := yes h7 | replace h7 := no h7 | replace h7 := nyes h7 | replace h7 := nno h7)
        refine CW.skip ?_
        refine EX.seq ?_
        refine CW.seq ?_
        refine CW.region ?_
        refine OL.q (Y.assign rfl) rfl ?_
        refine OL.nil ?_
        refine EX.seq ?_
        refine CW.ret ?_
        have hr : rightB x.op x.kids.length (funAt S x.fn).args.length = true := by
          unfold rightB
          (repeat' split) <;> first | (exfalso; omega) | exact decide_eq_true (by omega)
        exact EX.fin1 [] rfl rfl rfl ⟨by unfold countE; rw [hr]; rfl, rfl⟩
    · repeat (first | replace h1 := yes h1 | replace h1 := no h1 | replace h1 := nyes h1 | replace h1 := nno h1)
      refine CW.region ?_
      refine OL.q (Y.eql rfl rfl) rfl ?_
      refine OL.q (Y.assign rfl) rfl ?_
      refine OL.nil ?_
      refine EX.seq ?_
      refine CW.cond rfl (fun h2 => ?_) (fun h2 => ?_)
      · repeat (first | replace h2 := yes h2 | replace h2 := no h2 | replace h2 := nyes h2 | replace h2 := nno h2)
        refine CW.region ?_
        refine OL.q (Y.move rfl) rfl ?_
        refine OL.q (Y.eql rfl rfl) rfl ?_
        refine OL.q (Y.assign rfl) rfl ?_
        refine OL.nil ?_
        refine EX.norB ?_
        refine EX.seq ?_
        refine CW.seq ?_
        refine CW.seq ?_
        refine CW.region ?_
        refine OL.q (Y.move rfl) rfl ?_
        refine OL.q (Y.not rfl) rfl ?_
        refine OL.nil ?_
        refine EX.seq ?_
        refine CW.cond rfl (fun h7 => ?_) (fun h7 => ?_)
        · repeat (first | replace h7 := yes h7 | replace h7 := no h7 | replace h7 := nyes h7 | replace h7 := nno h7)
          refine CW.seq ?_
          refine CW.region ?_
          refine OL.q (Y.assign rfl) rfl ?_
          refine OL.nil ?_
          refine EX.seq ?_
          refine CW.ret ?_
          refine EX.retT ?_
          have hr : rightB x.op x.kids.length (funAt S x.fn).args.length = false := by
            unfold rightB
            (repeat' split) <;> first | (exfalso; omega) | exact decide_eq_false (by omega)
          exact EX.fin1 [] rfl rfl rfl ⟨by unfold countE; rw [hr]; rfl, rfl⟩
        · repeat (first | replace h7 := yes h7 | replace h7 := no h7 | replace h7 := nyes h7 | replace h7 := nno h7)
          refine CW.skip ?_
          refine EX.seq ?_
          refine CW.seq ?_
          refine CW.region ?_
          refine OL.q (Y.assign rfl) rfl ?_
          refine OL.nil ?_
          refine EX.seq ?_
          refine CW.ret ?_
          have hr : rightB x.op x.kids.length (funAt S x.fn).args.length = true := by
            unfold rightB
            (repeat' split) <;> first | (exfalso; omega) | exact decide_eq_true (by omega)
          exact EX.fin1 [] rfl rfl rfl ⟨by unfold countE; rw [hr]; rfl, rfl⟩
      · repeat (first | replace h2 := yes h2 | replace h2 := no h2 | replace h2 := nyes h2 | replace h2 := nno h2)
        refine CW.seq ?_
        refine CW.region ?_
        refine OL.q (Y.eql rfl rfl) rfl ?_
        refine OL.q (Y.assign rfl) rfl ?_
        refine OL.nil ?_
        refine EX.seq ?_
        refine CW.cond rfl (fun h3 => ?_) (fun h3 => ?_)
        · repeat (first | replace h3 := yes h3 | replace h3 := no h3 | replace h3 := nyes h3 | replace h3 := nno h3)
          obtain ⟨m, hm, hml⟩ := bad_nat (hf h3)
          obtain ⟨f, hfm⟩ : ∃ f, S.funs[m]? = some f := ⟨_, List.getElem?_eq_getElem (by rw [hS.fn]; exact hml)⟩
          obtain ⟨hfr, hfc, hfl⟩ := hS.funs f (mem_of hfm)
          have hfa : funAt S x.fn = f := by rw [hm]; exact funAt_is hfm
          have hna : (funAt S x.fn).args.length = f.n := by rw [hfa]; exact hfl
          refine CW.drawn [(true, 0), (true, 1), (true, 2), (true, 3), (true, 4), (true, 5), (true, 6), (true, 7), (true, 8), (true, 9), (true, 10), (true, 11)] [12] [0] mixed (by kernel_rfl) (by repeat (first | exact PanicOk.body | refine PanicOk.then ?_ | refine PanicOk.block ?_)) (by kernel_rfl) rfl rfl rfl rfl ?_
          refine OL.qt (Y.move rfl) rfl ?_
          refine OL.qt (Y.move rfl) rfl ?_
          refine OL.qt (Y.nilCheck rfl) rfl ?_
          refine OL.qt (Y.field L97_3 rfl) rfl ?_
          refine OL.qt (Y.load T55 rfl (Ent.via hF (Up.cellIs _ _ _) (Ent.at 0 rfl (Up.cellIs _ _ _) (blk_cell rfl)))) rfl ?_
          refine OL.qt (Y.field L30_1 rfl) rfl ?_
          refine OL.qt (Y.load T3 rfl (Ent.at 0 rfl (Up.cellIs _ _ _) (blk_cell rfl))) rfl ?_
          refine OL.qt (Y.index (k := m) Tryd.underlying55 C38 rfl rfl (Ent.via hF (Up.rd _ _ _ _) (Ent.at 3 rfl (Up.rd _ _ _ _) row_rd)) hm hml) rfl ?_
          refine OL.qt (Y.field L38_1 rfl) rfl ?_
          refine OL.qt (Y.load T28 rfl (cellsIs_at (rd_at (Ent.via hF (Up.rd _ _ _ _) (Ent.at 3 rfl (Up.rd _ _ _ _) row_rd)) (mget funCells hfm)) rfl)) rfl ?_
          refine OL.qt (Y.lenSl Tryd.underlying28 rfl) rfl ?_
          refine OL.qt (Y.eql rfl rfl) rfl ?_
          refine OL.nil ?_
          refine EX.tail ?_
          refine OL.q (Y.assign rfl) rfl ?_
          refine OL.nil ?_
          refine EX.norB ?_
          refine EX.seq ?_
          refine CW.seq ?_
          refine CW.seq ?_
          refine CW.region ?_
          refine OL.q (Y.move rfl) rfl ?_
          refine OL.q (Y.not rfl) rfl ?_
          refine OL.nil ?_
          refine EX.seq ?_
          refine CW.cond rfl (fun h7 => ?_) (fun h7 => ?_)
          · repeat (first | replace h7 := yes h7 | replace h7 := no h7 | replace h7 := nyes h7 | replace h7 := nno h7)
            refine CW.seq ?_
            refine CW.region ?_
            refine OL.q (Y.assign rfl) rfl ?_
            refine OL.nil ?_
            refine EX.seq ?_
            refine CW.ret ?_
            refine EX.retT ?_
            have hr : rightB x.op x.kids.length (funAt S x.fn).args.length = false := by
              unfold rightB
              (repeat' split) <;> first | (exfalso; omega) | exact decide_eq_false (by omega)
            exact EX.fin1 [] rfl rfl rfl ⟨by unfold countE; rw [hr]; rfl, rfl⟩
          · repeat (first | replace h7 := yes h7 | replace h7 := no h7 | replace h7 := nyes h7 | replace h7 := nno h7)
            refine CW.skip ?_
            refine EX.seq ?_
            refine CW.seq ?_
            refine CW.region ?_
            refine OL.q (Y.assign rfl) rfl ?_
            refine OL.nil ?_
            refine EX.seq ?_
            refine CW.ret ?_
            have hr : rightB x.op x.kids.length (funAt S x.fn).args.length = true := by
              unfold rightB
              (repeat' split) <;> first | (exfalso; omega) | exact decide_eq_true (by omega)
            exact EX.fin1 [] rfl rfl rfl ⟨by unfold countE; rw [hr]; rfl, rfl⟩
        · repeat (first | replace h3 := yes h3 | replace h3 := no h3 | replace h3 := nyes h3 | replace h3 := nno h3)
          refine CW.seq ?_
          refine CW.region ?_
          refine OL.q (Y.eql rfl rfl) rfl ?_
          refine OL.q (Y.assign rfl) rfl ?_
          refine OL.nil ?_
          refine EX.seq ?_
          refine CW.cond rfl (fun h4 => ?_) (fun h4 => ?_)
          · repeat (first | replace h4 := yes h4 | replace h4 := no h4 | replace h4 := nyes h4 | replace h4 := nno h4)
            refine CW.region ?_
            refine OL.q (Y.move rfl) rfl ?_
            refine OL.q (Y.eql rfl rfl) rfl ?_
            refine OL.q (Y.assign rfl) rfl ?_
            refine OL.nil ?_
            refine EX.norB ?_
            refine EX.seq ?_
            refine CW.seq ?_
            refine CW.seq ?_
            refine CW.region ?_
            refine OL.q (Y.move rfl) rfl ?_
            refine OL.q (Y.not rfl) rfl ?_
            refine OL.nil ?_
            refine EX.seq ?_
            refine CW.cond rfl (fun h7 => ?_) (fun h7 => ?_)
            · repeat (first | replace h7 := yes h7 | replace h7 := no h7 | replace h7 := nyes h7 | replace h7 := nno h7)
              refine CW.seq ?_
              refine CW.region ?_
              refine OL.q (Y.assign rfl) rfl ?_
              refine OL.nil ?_
              refine EX.seq ?_
              refine CW.ret ?_
              refine EX.retT ?_
              have hr : rightB x.op x.kids.length (funAt S x.fn).args.length = false := by
                unfold rightB
                (repeat' split) <;> first | (exfalso; omega) | exact decide_eq_false (by omega)
              exact EX.fin1 [] rfl rfl rfl ⟨by unfold countE; rw [hr]; rfl, rfl⟩
            · repeat (first | replace h7 := yes h7 | replace h7 := no h7 | replace h7 := nyes h7 | replace h7 := nno h7)
              refine CW.skip ?_
              refine EX.seq ?_
              refine CW.seq ?_
              refine CW.region ?_
              refine OL.q (Y.assign rfl) rfl ?_
              refine OL.nil ?_
              refine EX.seq ?_
              refine CW.ret ?_
              have hr : rightB x.op x.kids.length (funAt S x.fn).args.length = true := by
                unfold rightB
                (repeat' split) <;> first | (exfalso; omega) | exact decide_eq_true (by omega)
              exact EX.fin1 [] rfl rfl rfl ⟨by unfold countE; rw [hr]; rfl, rfl⟩
          · repeat (first | replace h4 := yes h4 | replace h4 := no h4 | replace h4 := nyes h4 | replace h4 := nno h4)
            refine CW.seq ?_
            refine CW.region ?_
            refine OL.q (Y.eql rfl rfl) rfl ?_
            refine OL.q (Y.assign rfl) rfl ?_
            refine OL.nil ?_
            refine EX.seq ?_
            refine CW.cond rfl (fun h5 => ?_) (fun h5 => ?_)
            · repeat (first | replace h5 := yes h5 | replace h5 := no h5 | replace h5 := nyes h5 | replace h5 := nno h5)
              refine CW.region ?_
              refine OL.q (Y.move rfl) rfl ?_
              refine OL.q (Y.eql rfl rfl) rfl ?_
              refine OL.q (Y.assign rfl) rfl ?_
              refine OL.nil ?_
              refine EX.norB ?_
              refine EX.seq ?_
              refine CW.seq ?_
              refine CW.seq ?_
              refine CW.region ?_
              refine OL.q (Y.move rfl) rfl ?_
              refine OL.q (Y.not rfl) rfl ?_
              refine OL.nil ?_
              refine EX.seq ?_
              refine CW.cond rfl (fun h7 => ?_) (fun h7 => ?_)
              · repeat (first | replace h7 := yes h7 | replace h7 := no h7 | replace h7 := nyes h7 | replace h7 := nno h7)
                refine CW.seq ?_
                refine CW.region ?_
                refine OL.q (Y.assign rfl) rfl ?_
                refine OL.nil ?_
                refine EX.seq ?_
                refine CW.ret ?_
                refine EX.retT ?_
                have hr : rightB x.op x.kids.length (funAt S x.fn).args.length = false := by
                  unfold rightB
                  (repeat' split) <;> first | (exfalso; omega) | exact decide_eq_false (by omega)
                exact EX.fin1 [] rfl rfl rfl ⟨by unfold countE; rw [hr]; rfl, rfl⟩
              · repeat (first | replace h7 := yes h7 | replace h7 := no h7 | replace h7 := nyes h7 | replace h7 := nno h7)
                refine CW.skip ?_
                refine EX.seq ?_
                refine CW.seq ?_
                refine CW.region ?_
                refine OL.q (Y.assign rfl) rfl ?_
                refine OL.nil ?_
                refine EX.seq ?_
                refine CW.ret ?_
                have hr : rightB x.op x.kids.length (funAt S x.fn).args.length = true := by
                  unfold rightB
                  (repeat' split) <;> first | (exfalso; omega) | exact decide_eq_true (by omega)
                exact EX.fin1 [] rfl rfl rfl ⟨by unfold countE; rw [hr]; rfl, rfl⟩
            · repeat (first | replace h5 := yes h5 | replace h5 := no h5 | replace h5 := nyes h5 | replace h5 := nno h5)
              refine CW.seq ?_
              refine CW.region ?_
              refine OL.q (Y.eql rfl rfl) rfl ?_
              refine OL.q (Y.assign rfl) rfl ?_
              refine OL.nil ?_
              refine EX.seq ?_
              refine CW.cond rfl (fun h6 => ?_) (fun h6 => ?_)
              · repeat (first | replace h6 := yes h6 | replace h6 := no h6 | replace h6 := nyes h6 | replace h6 := nno h6)
                refine CW.region ?_
                refine OL.q (Y.move rfl) rfl ?_
                refine OL.q (Y.geq rfl rfl) rfl ?_
                refine OL.q (Y.assign rfl) rfl ?_
                refine OL.nil ?_
                refine EX.norB ?_
                refine EX.seq ?_
                refine CW.seq ?_
                refine CW.seq ?_
                refine CW.region ?_
                refine OL.q (Y.move rfl) rfl ?_
                refine OL.q (Y.not rfl) rfl ?_
                refine OL.nil ?_
                refine EX.seq ?_
                refine CW.cond rfl (fun h7 => ?_) (fun h7 => ?_)
                · repeat (first | replace h7 := yes h7 | replace h7 := no h7 | replace h7 := nyes h7 | replace h7 := nno h7)
                  refine CW.seq ?_
                  refine CW.region ?_
                  refine OL.q (Y.assign rfl) rfl ?_
                  refine OL.nil ?_
                  refine EX.seq ?_
                  refine CW.ret ?_
                  refine EX.retT ?_
                  have hr : rightB x.op x.kids.length (funAt S x.fn).args.length = false := by
                    unfold rightB
                    (repeat' split) <;> first | (exfalso; omega) | exact decide_eq_false (by omega)
                  exact EX.fin1 [] rfl rfl rfl ⟨by unfold countE; rw [hr]; rfl, rfl⟩
                · repeat (first | replace h7 := yes h7 | replace h7 := no h7 | replace h7 := nyes h7 | replace h7 := nno h7)
                  refine CW.skip ?_
                  refine EX.seq ?_
                  refine CW.seq ?_
                  refine CW.region ?_
                  refine OL.q (Y.assign rfl) rfl ?_
                  refine OL.nil ?_
                  refine EX.seq ?_
                  refine CW.ret ?_
                  have hr : rightB x.op x.kids.length (funAt S x.fn).args.length = true := by
                    unfold rightB
                    (repeat' split) <;> first | (exfalso; omega) | exact decide_eq_true (by omega)
                  exact EX.fin1 [] rfl rfl rfl ⟨by unfold countE; rw [hr]; rfl, rfl⟩
              · repeat (first | replace h6 := yes h6 | replace h6 := no h6 | replace h6 := nyes h6 | replace h6 := nno h6)
                refine CW.region ?_
                refine OL.q (Y.move rfl) rfl ?_
                refine OL.q (Y.geq rfl rfl) rfl ?_
                refine OL.q (Y.assign rfl) rfl ?_
                refine OL.nil ?_
                refine EX.norB ?_
                refine EX.seq ?_
                refine CW.seq ?_
                refine CW.seq ?_
                refine CW.region ?_
                refine OL.q (Y.move rfl) rfl ?_
                refine OL.q (Y.not rfl) rfl ?_
                refine OL.nil ?_
                refine EX.seq ?_
                refine CW.cond rfl (fun h7 => ?_) (fun h7 => ?_)
                · repeat (first | replace h7 := yes h7 | replace h7 := no h7 | replace h7 := nyes h7 | replace h7 := nno h7)
                  refine CW.seq ?_
                  refine CW.region ?_
                  refine OL.q (Y.assign rfl) rfl ?_
                  refine OL.nil ?_
                  refine EX.seq ?_
                  refine CW.ret ?_
                  refine EX.retT ?_
                  have hr : rightB x.op x.kids.length (funAt S x.fn).args.length = false := by
                    unfold rightB
                    (repeat' split) <;> first | (exfalso; omega) | exact decide_eq_false (by omega)
                  exact EX.fin1 [] rfl rfl rfl ⟨by unfold countE; rw [hr]; rfl, rfl⟩
                · repeat (first | replace h7 := yes h7 | replace h7 := no h7 | replace h7 := nyes h7 | replace h7 := nno h7)
                  refine CW.skip ?_
                  refine EX.seq ?_
                  refine CW.seq ?_
                  refine CW.region ?_
                  refine OL.q (Y.assign rfl) rfl ?_
                  refine OL.nil ?_
                  refine EX.seq ?_
                  refine CW.ret ?_
                  have hr : rightB x.op x.kids.length (funAt S x.fn).args.length = true := by
                    unfold rightB
                    (repeat' split) <;> first | (exfalso; omega) | exact decide_eq_true (by omega)
                  exact EX.fin1 [] rfl rfl rfl ⟨by unfold countE; rw [hr]; rfl, rfl⟩


theorem ofAt_is {S : DagS} {k : Nat} {z : Int} (h : S.of[k]? = some z) : ofAt S k = z := getD_at h
theorem right_app {n na : Nat} (h : rightB 3 n na = true) : n = na := by simpa [rightB] using h
theorem right_ite {n na : Nat} (h : rightB 10 n na = true) : n = 3 := by simpa [rightB] using h
theorem right_eq {n na : Nat} {op : Int} (ho : op = 11 ∨ op = 12) (h : rightB op n na = true) : 2 ≤ n := by
  rcases ho with rfl | rfl <;> simpa [rightB] using h
/-- A term whose head, kids and count are right. -/
structure Near (S : DagS) (v : DagV) (x : TermC) : Prop where
  fn : x.op = 3 → bad v.fn x.fn = false
  kids : ∀ k ∈ x.kids, bad v.tn k = false
  count : rightB x.op x.kids.length (funAt S x.fn).args.length = true


theorem wanted_any (t : Nat) (S : DagS) (v : DagV) (M : PH) (hS : DagOk M S v) (x : TermC) (hxl : x.kids.length = x.n) (hn : x.n ≤ 1000000) (hnr : Near S v x) (i : Nat) (hi : i < x.n) :
    FS Tryd.prog 87 [.pointer (some ⟨t, 0, none⟩), termVal x, .int .i64 i] (dagK t S v M x) [] (fun r H => r = .int .i64 (wantE S x i) ∧ H = []) := by
  refine FS.intro (N := 56) Tryd.func87 rfl rfl rfl (fun F w0 hF => ?_)
  have hK : Ent F (rd x.a x.n 1 (x.kids.map intCells)) := fun h hs => (hF h hs).2
  have hF0 := hF
  replace hF : Ent F (fun h => sl (dagR t S v M) h) := fun h hs => (hF0 h hs).1
  refine CW.seq ?_
  refine CW.region ?_
  refine OL.box rfl rfl rfl (fun b4 => ⟨rfl, rfl, ?_⟩)
  refine OL.q (Y.assign rfl) rfl ?_
  refine OL.nil ?_
  refine EX.seq ?_
  refine CW.seq ?_
  refine CW.seq ?_
  refine CW.region ?_
  refine OL.q (Y.field L30_0 rfl) rfl ?_
  refine OL.q (Y.load T3 rfl (Ent.at 0 rfl (Up.cellIs _ _ _) (blk_cell rfl))) rfl ?_
  refine OL.nil ?_
  refine EX.seq ?_
  refine CW.block ?_
  refine CW.seq ?_
  refine CW.region ?_
  refine OL.q (Y.eql rfl rfl) rfl ?_
  refine OL.q (Y.assign rfl) rfl ?_
  refine OL.nil ?_
  refine EX.seq ?_
  refine CW.cond rfl (fun h0 => ?_) (fun h0 => ?_)
  · repeat (first | replace h0 := yes h0 | replace h0 := no h0 | replace h0 := nyes h0 | replace h0 := nno h0)
    obtain ⟨m, hm, hml⟩ := bad_nat (hnr.fn h0)
    obtain ⟨f, hfm⟩ : ∃ f, S.funs[m]? = some f := ⟨_, List.getElem?_eq_getElem (by rw [hS.fn]; exact hml)⟩
    obtain ⟨hfr, hfc, hfl⟩ := hS.funs f (mem_of hfm)
    have hfa : funAt S x.fn = f := by rw [hm]; exact funAt_is hfm
    have hct := hnr.count
    rw [h0, hfa] at hct
    have hcn := right_app hct
    obtain ⟨z, hz⟩ : ∃ z, f.args[i]? = some z := ⟨_, List.getElem?_eq_getElem (by omega)⟩
    refine CW.seq ?_
    refine CW.drawn [(true, 0), (true, 1), (true, 2), (true, 3), (true, 4), (true, 5), (true, 6), (true, 7), (true, 8), (true, 9), (true, 10), (true, 11)] [12] [0] mixed (by kernel_rfl) (by repeat (first | exact PanicOk.body | refine PanicOk.then ?_ | refine PanicOk.block ?_)) (by kernel_rfl) rfl rfl rfl rfl ?_
    refine OL.qt (Y.move rfl) rfl ?_
    refine OL.qt (Y.nilCheck rfl) rfl ?_
    refine OL.qt (Y.field L97_3 rfl) rfl ?_
    refine OL.qt (Y.load T55 rfl (Ent.via hF (Up.cellIs _ _ _) (Ent.at 0 rfl (Up.cellIs _ _ _) (blk_cell rfl)))) rfl ?_
    refine OL.qt (Y.field L30_1 rfl) rfl ?_
    refine OL.qt (Y.load T3 rfl (Ent.at 0 rfl (Up.cellIs _ _ _) (blk_cell rfl))) rfl ?_
    refine OL.qt (Y.index (k := m) Tryd.underlying55 C38 rfl rfl (Ent.via hF (Up.rd _ _ _ _) (Ent.at 3 rfl (Up.rd _ _ _ _) row_rd)) hm hml) rfl ?_
    refine OL.qt (Y.field L38_1 rfl) rfl ?_
    refine OL.qt (Y.load T28 rfl (cellsIs_at (rd_at (Ent.via hF (Up.rd _ _ _ _) (Ent.at 3 rfl (Up.rd _ _ _ _) row_rd)) (mget funCells hfm)) rfl)) rfl ?_
    refine OL.qt (Y.move rfl) rfl ?_
    refine OL.qt (Y.index (k := i) Tryd.underlying28 C3 rfl rfl (Ent.via hF (Up.rd _ _ _ _) (Ent.at 9 rfl (Up.rd _ _ _ _) (imm_ent (Up.rd _ _ _ _) hfr))) (by omega) (by omega)) rfl ?_
    refine OL.qt (Y.load T3 rfl (cellsIs_at0 (rd_at (Ent.via hF (Up.rd _ _ _ _) (Ent.at 9 rfl (Up.rd _ _ _ _) (imm_ent (Up.rd _ _ _ _) hfr))) (mget intCells hz)) rfl)) rfl ?_
    refine OL.nil ?_
    refine EX.tail ?_
    refine OL.q (Y.assign rfl) rfl ?_
    refine OL.nil ?_
    refine EX.seq ?_
    refine CW.ret ?_
    refine EX.retB ?_
    refine EX.retT ?_
    exact EX.fin1 [] rfl rfl rfl ⟨by unfold wantE; rw [if_pos h0, hfa, getD_at hz], rfl⟩
  · repeat (first | replace h0 := yes h0 | replace h0 := no h0 | replace h0 := nyes h0 | replace h0 := nno h0)
    refine CW.seq ?_
    refine CW.seq ?_
    refine CW.region ?_
    refine OL.q (Y.eql rfl rfl) rfl ?_
    refine OL.q (Y.assign rfl) rfl ?_
    refine OL.nil ?_
    refine EX.seq ?_
    refine CW.cond rfl (fun h1 => ?_) (fun h1 => ?_)
    · repeat (first | replace h1 := yes h1 | replace h1 := no h1 | replace h1 := nyes h1 | replace h1 := nno h1)
      refine CW.skip ?_
      refine EX.seq ?_
      refine CW.cond rfl (fun h5 => ?_) (fun h5 => ?_)
      rotate_left
      · repeat (first | replace h5 := yes h5 | replace h5 := no h5 | replace h5 := nyes h5 | replace h5 := nno h5)
        exfalso
        first | omega | contradiction | exact absurd rfl h5 | exact absurd h5 (by simp) | exact absurd h5 (by decide)
      repeat (first | replace h5 := yes h5 | replace h5 := no h5 | replace h5 := nyes h5 | replace h5 := nno h5)
      refine CW.seq ?_
      refine CW.region ?_
      refine OL.q (Y.assign rfl) rfl ?_
      refine OL.nil ?_
      refine EX.seq ?_
      refine CW.ret ?_
      refine EX.retB ?_
      refine EX.retT ?_
      exact EX.fin1 [] rfl rfl rfl ⟨by unfold wantE; rw [if_neg h0, if_pos (by omega)], rfl⟩
    · repeat (first | replace h1 := yes h1 | replace h1 := no h1 | replace h1 := nyes h1 | replace h1 := nno h1)
      refine CW.seq ?_
      refine CW.region ?_
      refine OL.q (Y.eql rfl rfl) rfl ?_
      refine OL.q (Y.assign rfl) rfl ?_
      refine OL.nil ?_
      refine EX.seq ?_
      refine CW.cond rfl (fun h2 => ?_) (fun h2 => ?_)
      · repeat (first | replace h2 := yes h2 | replace h2 := no h2 | replace h2 := nyes h2 | replace h2 := nno h2)
        refine CW.skip ?_
        refine EX.seq ?_
        refine CW.cond rfl (fun h5 => ?_) (fun h5 => ?_)
        rotate_left
        · repeat (first | replace h5 := yes h5 | replace h5 := no h5 | replace h5 := nyes h5 | replace h5 := nno h5)
          exfalso
          first | omega | contradiction | exact absurd rfl h5 | exact absurd h5 (by simp) | exact absurd h5 (by decide)
        repeat (first | replace h5 := yes h5 | replace h5 := no h5 | replace h5 := nyes h5 | replace h5 := nno h5)
        refine CW.seq ?_
        refine CW.region ?_
        refine OL.q (Y.assign rfl) rfl ?_
        refine OL.nil ?_
        refine EX.seq ?_
        refine CW.ret ?_
        refine EX.retB ?_
        refine EX.retT ?_
        exact EX.fin1 [] rfl rfl rfl ⟨by unfold wantE; rw [if_neg h0, if_pos (by omega)], rfl⟩
      · repeat (first | replace h2 := yes h2 | replace h2 := no h2 | replace h2 := nyes h2 | replace h2 := nno h2)
        refine CW.seq ?_
        refine CW.region ?_
        refine OL.q (Y.eql rfl rfl) rfl ?_
        refine OL.q (Y.assign rfl) rfl ?_
        refine OL.nil ?_
        refine EX.seq ?_
        refine CW.cond rfl (fun h3 => ?_) (fun h3 => ?_)
        · repeat (first | replace h3 := yes h3 | replace h3 := no h3 | replace h3 := nyes h3 | replace h3 := nno h3)
          refine CW.skip ?_
          refine EX.seq ?_
          refine CW.cond rfl (fun h5 => ?_) (fun h5 => ?_)
          rotate_left
          · repeat (first | replace h5 := yes h5 | replace h5 := no h5 | replace h5 := nyes h5 | replace h5 := nno h5)
            exfalso
            first | omega | contradiction | exact absurd rfl h5 | exact absurd h5 (by simp) | exact absurd h5 (by decide)
          repeat (first | replace h5 := yes h5 | replace h5 := no h5 | replace h5 := nyes h5 | replace h5 := nno h5)
          refine CW.seq ?_
          refine CW.region ?_
          refine OL.q (Y.assign rfl) rfl ?_
          refine OL.nil ?_
          refine EX.seq ?_
          refine CW.ret ?_
          refine EX.retB ?_
          refine EX.retT ?_
          exact EX.fin1 [] rfl rfl rfl ⟨by unfold wantE; rw [if_neg h0, if_pos (by omega)], rfl⟩
        · repeat (first | replace h3 := yes h3 | replace h3 := no h3 | replace h3 := nyes h3 | replace h3 := nno h3)
          refine CW.seq ?_
          refine CW.region ?_
          refine OL.q (Y.eql rfl rfl) rfl ?_
          refine OL.q (Y.assign rfl) rfl ?_
          refine OL.nil ?_
          refine EX.seq ?_
          refine CW.cond rfl (fun h4 => ?_) (fun h4 => ?_)
          · repeat (first | replace h4 := yes h4 | replace h4 := no h4 | replace h4 := nyes h4 | replace h4 := nno h4)
            refine CW.skip ?_
            refine EX.seq ?_
            refine CW.cond rfl (fun h5 => ?_) (fun h5 => ?_)
            rotate_left
            · repeat (first | replace h5 := yes h5 | replace h5 := no h5 | replace h5 := nyes h5 | replace h5 := nno h5)
              exfalso
              first | omega | contradiction | exact absurd rfl h5 | exact absurd h5 (by simp) | exact absurd h5 (by decide)
            repeat (first | replace h5 := yes h5 | replace h5 := no h5 | replace h5 := nyes h5 | replace h5 := nno h5)
            refine CW.seq ?_
            refine CW.region ?_
            refine OL.q (Y.assign rfl) rfl ?_
            refine OL.nil ?_
            refine EX.seq ?_
            refine CW.ret ?_
            refine EX.retB ?_
            refine EX.retT ?_
            exact EX.fin1 [] rfl rfl rfl ⟨by unfold wantE; rw [if_neg h0, if_pos (by omega)], rfl⟩
          · repeat (first | replace h4 := yes h4 | replace h4 := no h4 | replace h4 := nyes h4 | replace h4 := nno h4)
            refine CW.region ?_
            refine OL.q (Y.eql rfl rfl) rfl ?_
            refine OL.q (Y.assign rfl) rfl ?_
            refine OL.nil ?_
            refine EX.seq ?_
            refine CW.cond rfl (fun h5 => ?_) (fun h5 => ?_)
            · repeat (first | replace h5 := yes h5 | replace h5 := no h5 | replace h5 := nyes h5 | replace h5 := nno h5)
              refine CW.seq ?_
              refine CW.region ?_
              refine OL.q (Y.assign rfl) rfl ?_
              refine OL.nil ?_
              refine EX.seq ?_
              refine CW.ret ?_
              refine EX.retB ?_
              refine EX.retT ?_
              exact EX.fin1 [] rfl rfl rfl ⟨by unfold wantE; rw [if_neg h0, if_pos (by omega)], rfl⟩
            · repeat (first | replace h5 := yes h5 | replace h5 := no h5 | replace h5 := nyes h5 | replace h5 := nno h5)
              refine CW.seq ?_
              refine CW.region ?_
              refine OL.q (Y.eql rfl rfl) rfl ?_
              refine OL.q (Y.assign rfl) rfl ?_
              refine OL.nil ?_
              refine EX.seq ?_
              refine CW.cond rfl (fun h6 => ?_) (fun h6 => ?_)
              · repeat (first | replace h6 := yes h6 | replace h6 := no h6 | replace h6 := nyes h6 | replace h6 := nno h6)
                refine CW.seq ?_
                refine CW.seq ?_
                refine CW.region ?_
                refine OL.q (Y.move rfl) rfl ?_
                refine OL.q (Y.eql rfl rfl) rfl ?_
                refine OL.nil ?_
                refine EX.seq ?_
                refine CW.cond rfl (fun h7 => ?_) (fun h7 => ?_)
                · repeat (first | replace h7 := yes h7 | replace h7 := no h7 | replace h7 := nyes h7 | replace h7 := nno h7)
                  refine CW.seq ?_
                  refine CW.region ?_
                  refine OL.q (Y.assign rfl) rfl ?_
                  refine OL.nil ?_
                  refine EX.seq ?_
                  refine CW.ret ?_
                  refine EX.retT ?_
                  refine EX.retB ?_
                  refine EX.retT ?_
                  exact EX.fin1 [] rfl rfl rfl ⟨by unfold wantE; rw [if_neg h0, if_neg (by omega), if_pos h6, if_pos (by omega)], rfl⟩
                · repeat (first | replace h7 := yes h7 | replace h7 := no h7 | replace h7 := nyes h7 | replace h7 := nno h7)
                  have hct := hnr.count
                  rw [h6] at hct
                  have hcn := right_ite hct
                  obtain ⟨kd, hkd⟩ : ∃ p, x.kids[1]? = some p := ⟨_, List.getElem?_eq_getElem (by omega)⟩
                  obtain ⟨m, hm, hml⟩ := bad_nat (hnr.kids kd (mem_of hkd))
                  obtain ⟨z, hz⟩ : ∃ z, S.of[m]? = some z := ⟨_, List.getElem?_eq_getElem (by rw [hS.on]; exact hml)⟩
                  have hov := hS.onv
                  refine CW.skip ?_
                  refine EX.seq ?_
                  refine CW.seq ?_
                  refine CW.drawn [(true, 0), (true, 1), (true, 2), (true, 3), (true, 4), (true, 5), (true, 6), (true, 7), (true, 8), (true, 9)] [10] [0] mixed (by kernel_rfl) (by repeat (first | exact PanicOk.body | refine PanicOk.then ?_ | refine PanicOk.block ?_)) (by kernel_rfl) rfl rfl rfl rfl ?_
                  refine OL.qt (Y.move rfl) rfl ?_
                  refine OL.qt (Y.nilCheck rfl) rfl ?_
                  refine OL.qt (Y.field L97_5 rfl) rfl ?_
                  refine OL.qt (Y.load T28 rfl (Ent.via hF (Up.cellIs _ _ _) (Ent.at 0 rfl (Up.cellIs _ _ _) (blk_cell rfl)))) rfl ?_
                  refine OL.qt (Y.field L30_2 rfl) rfl ?_
                  refine OL.qt (Y.load T28 rfl (Ent.at 0 rfl (Up.cellIs _ _ _) (blk_cell rfl))) rfl ?_
                  refine OL.qt (Y.index (k := 1) Tryd.underlying28 C3 rfl rfl (Ent.frame (Up.rd _ _ _ _) hK) (by omega) (by omega)) rfl ?_
                  refine OL.qt (Y.load T3 rfl (cellsIs_at0 (rd_at (Ent.frame (Up.rd _ _ _ _) hK) (mget intCells hkd)) rfl)) rfl ?_
                  refine OL.qt (Y.index (k := m) Tryd.underlying28 C3 rfl rfl (Ent.via hF (Up.rd _ _ _ _) (Ent.at 5 rfl (Up.rd _ _ _ _) row_rd)) hm (by omega)) rfl ?_
                  refine OL.qt (Y.load T3 rfl (cellsIs_at0 (rd_at (Ent.via hF (Up.rd _ _ _ _) (Ent.at 5 rfl (Up.rd _ _ _ _) row_rd)) (mget intCells hz)) rfl)) rfl ?_
                  refine OL.nil ?_
                  refine EX.tail ?_
                  refine OL.q (Y.assign rfl) rfl ?_
                  refine OL.nil ?_
                  refine EX.seq ?_
                  refine CW.ret ?_
                  refine EX.retB ?_
                  refine EX.retT ?_
                  exact EX.fin1 [] rfl rfl rfl ⟨by unfold wantE; rw [if_neg h0, if_neg (by omega), if_pos h6, if_neg (by omega), getD_at hkd, hm, ofAt_is hz], rfl⟩
              · repeat (first | replace h6 := yes h6 | replace h6 := no h6 | replace h6 := nyes h6 | replace h6 := nno h6)
                refine CW.seq ?_
                refine CW.seq ?_
                refine CW.region ?_
                refine OL.q (Y.eql rfl rfl) rfl ?_
                refine OL.q (Y.assign rfl) rfl ?_
                refine OL.nil ?_
                refine EX.seq ?_
                refine CW.cond rfl (fun h8 => ?_) (fun h8 => ?_)
                · repeat (first | replace h8 := yes h8 | replace h8 := no h8 | replace h8 := nyes h8 | replace h8 := nno h8)
                  have hcn := right_eq (.inl h8) hnr.count
                  obtain ⟨kd, hkd⟩ : ∃ p, x.kids[0]? = some p := ⟨_, List.getElem?_eq_getElem (by omega)⟩
                  obtain ⟨m, hm, hml⟩ := bad_nat (hnr.kids kd (mem_of hkd))
                  obtain ⟨z, hz⟩ : ∃ z, S.of[m]? = some z := ⟨_, List.getElem?_eq_getElem (by rw [hS.on]; exact hml)⟩
                  have hov := hS.onv
                  refine CW.skip ?_
                  refine EX.seq ?_
                  refine CW.cond rfl (fun h9 => ?_) (fun h9 => ?_)
                  rotate_left
                  · repeat (first | replace h9 := yes h9 | replace h9 := no h9 | replace h9 := nyes h9 | replace h9 := nno h9)
                    exfalso
                    first | omega | contradiction | exact absurd rfl h9 | exact absurd h9 (by simp) | exact absurd h9 (by decide)
                  repeat (first | replace h9 := yes h9 | replace h9 := no h9 | replace h9 := nyes h9 | replace h9 := nno h9)
                  refine CW.seq ?_
                  refine CW.drawn [(true, 0), (true, 1), (true, 2), (true, 3), (true, 4), (true, 5), (true, 6), (true, 7), (true, 8), (true, 9)] [10] [0] mixed (by kernel_rfl) (by repeat (first | exact PanicOk.body | refine PanicOk.then ?_ | refine PanicOk.block ?_)) (by kernel_rfl) rfl rfl rfl rfl ?_
                  refine OL.qt (Y.move rfl) rfl ?_
                  refine OL.qt (Y.nilCheck rfl) rfl ?_
                  refine OL.qt (Y.field L97_5 rfl) rfl ?_
                  refine OL.qt (Y.load T28 rfl (Ent.via hF (Up.cellIs _ _ _) (Ent.at 0 rfl (Up.cellIs _ _ _) (blk_cell rfl)))) rfl ?_
                  refine OL.qt (Y.field L30_2 rfl) rfl ?_
                  refine OL.qt (Y.load T28 rfl (Ent.at 0 rfl (Up.cellIs _ _ _) (blk_cell rfl))) rfl ?_
                  refine OL.qt (Y.index (k := 0) Tryd.underlying28 C3 rfl rfl (Ent.frame (Up.rd _ _ _ _) hK) (by omega) (by omega)) rfl ?_
                  refine OL.qt (Y.load T3 rfl (cellsIs_at0 (rd_at (Ent.frame (Up.rd _ _ _ _) hK) (mget intCells hkd)) rfl)) rfl ?_
                  refine OL.qt (Y.index (k := m) Tryd.underlying28 C3 rfl rfl (Ent.via hF (Up.rd _ _ _ _) (Ent.at 5 rfl (Up.rd _ _ _ _) row_rd)) hm (by omega)) rfl ?_
                  refine OL.qt (Y.load T3 rfl (cellsIs_at0 (rd_at (Ent.via hF (Up.rd _ _ _ _) (Ent.at 5 rfl (Up.rd _ _ _ _) row_rd)) (mget intCells hz)) rfl)) rfl ?_
                  refine OL.nil ?_
                  refine EX.tail ?_
                  refine OL.q (Y.assign rfl) rfl ?_
                  refine OL.nil ?_
                  refine EX.seq ?_
                  refine CW.ret ?_
                  refine EX.retB ?_
                  refine EX.retT ?_
                  exact EX.fin1 [] rfl rfl rfl ⟨by unfold wantE; rw [if_neg h0, if_neg (by omega), if_neg h6, if_pos (by omega), getD_at hkd, hm, ofAt_is hz], rfl⟩
                · repeat (first | replace h8 := yes h8 | replace h8 := no h8 | replace h8 := nyes h8 | replace h8 := nno h8)
                  refine CW.region ?_
                  refine OL.q (Y.eql rfl rfl) rfl ?_
                  refine OL.q (Y.assign rfl) rfl ?_
                  refine OL.nil ?_
                  refine EX.seq ?_
                  refine CW.cond rfl (fun h9 => ?_) (fun h9 => ?_)
                  · repeat (first | replace h9 := yes h9 | replace h9 := no h9 | replace h9 := nyes h9 | replace h9 := nno h9)
                    have hcn := right_eq (.inr h9) hnr.count
                    obtain ⟨kd, hkd⟩ : ∃ p, x.kids[0]? = some p := ⟨_, List.getElem?_eq_getElem (by omega)⟩
                    obtain ⟨m, hm, hml⟩ := bad_nat (hnr.kids kd (mem_of hkd))
                    obtain ⟨z, hz⟩ : ∃ z, S.of[m]? = some z := ⟨_, List.getElem?_eq_getElem (by rw [hS.on]; exact hml)⟩
                    have hov := hS.onv
                    refine CW.seq ?_
                    refine CW.drawn [(true, 0), (true, 1), (true, 2), (true, 3), (true, 4), (true, 5), (true, 6), (true, 7), (true, 8), (true, 9)] [10] [0] mixed (by kernel_rfl) (by repeat (first | exact PanicOk.body | refine PanicOk.then ?_ | refine PanicOk.block ?_)) (by kernel_rfl) rfl rfl rfl rfl ?_
                    refine OL.qt (Y.move rfl) rfl ?_
                    refine OL.qt (Y.nilCheck rfl) rfl ?_
                    refine OL.qt (Y.field L97_5 rfl) rfl ?_
                    refine OL.qt (Y.load T28 rfl (Ent.via hF (Up.cellIs _ _ _) (Ent.at 0 rfl (Up.cellIs _ _ _) (blk_cell rfl)))) rfl ?_
                    refine OL.qt (Y.field L30_2 rfl) rfl ?_
                    refine OL.qt (Y.load T28 rfl (Ent.at 0 rfl (Up.cellIs _ _ _) (blk_cell rfl))) rfl ?_
                    refine OL.qt (Y.index (k := 0) Tryd.underlying28 C3 rfl rfl (Ent.frame (Up.rd _ _ _ _) hK) (by omega) (by omega)) rfl ?_
                    refine OL.qt (Y.load T3 rfl (cellsIs_at0 (rd_at (Ent.frame (Up.rd _ _ _ _) hK) (mget intCells hkd)) rfl)) rfl ?_
                    refine OL.qt (Y.index (k := m) Tryd.underlying28 C3 rfl rfl (Ent.via hF (Up.rd _ _ _ _) (Ent.at 5 rfl (Up.rd _ _ _ _) row_rd)) hm (by omega)) rfl ?_
                    refine OL.qt (Y.load T3 rfl (cellsIs_at0 (rd_at (Ent.via hF (Up.rd _ _ _ _) (Ent.at 5 rfl (Up.rd _ _ _ _) row_rd)) (mget intCells hz)) rfl)) rfl ?_
                    refine OL.nil ?_
                    refine EX.tail ?_
                    refine OL.q (Y.assign rfl) rfl ?_
                    refine OL.nil ?_
                    refine EX.seq ?_
                    refine CW.ret ?_
                    refine EX.retB ?_
                    refine EX.retT ?_
                    exact EX.fin1 [] rfl rfl rfl ⟨by unfold wantE; rw [if_neg h0, if_neg (by omega), if_neg h6, if_pos (by omega), getD_at hkd, hm, ofAt_is hz], rfl⟩
                  · repeat (first | replace h9 := yes h9 | replace h9 := no h9 | replace h9 := nyes h9 | replace h9 := nno h9)
                    refine CW.skip ?_
                    refine EX.norB ?_
                    refine EX.seq ?_
                    refine CW.seq ?_
                    refine CW.region ?_
                    refine OL.q (Y.assign rfl) rfl ?_
                    refine OL.nil ?_
                    refine EX.seq ?_
                    refine CW.ret ?_
                    exact EX.fin1 [] rfl rfl rfl ⟨by unfold wantE; rw [if_neg h0, if_neg (by omega), if_neg h6, if_neg (by omega)], rfl⟩


def okSort (S : DagS) (x : TermC) (i : Nat) : Bool := decide (ofAt S (x.kids.getD i 0) = wantE S x i)
theorem sortE_eq (S : DagS) (x : TermC) : sortE S x = if (List.range x.kids.length).all (okSort S x) then 0 else 14 := rfl


theorem wrongSort_any (t : Nat) (S : DagS) (v : DagV) (M : PH) (hS : DagOk M S v) (x : TermC) (hxl : x.kids.length = x.n) (hn : x.n ≤ 1000000) (hnr : Near S v x) :
    FS Tryd.prog 59 [.pointer (some ⟨t, 0, none⟩), termVal x] (dagK t S v M x) [] (fun r H => r = .int .i64 (sortE S x) ∧ H = []) := by
  refine FS.intro (N := 28) Tryd.func59 rfl rfl rfl (fun F w0 hF => ?_)
  have hK : Ent F (rd x.a x.n 1 (x.kids.map intCells)) := fun h hs => (hF h hs).2
  have hF0 := hF
  replace hF : Ent F (fun h => sl (dagR t S v M) h) := fun h hs => (hF0 h hs).1
  refine CW.seq ?_
  refine CW.region ?_
  refine OL.box rfl rfl rfl (fun b3 => ⟨rfl, rfl, ?_⟩)
  refine OL.q (Y.assign rfl) rfl ?_
  refine OL.nil ?_
  refine EX.seq ?_
  refine CW.seq ?_
  refine CW.seq ?_
  refine CW.region ?_
  refine OL.q (Y.field L30_2 rfl) rfl ?_
  refine OL.q (Y.load T28 rfl (Ent.at 0 rfl (Up.cellIs _ _ _) (blk_cell rfl))) rfl ?_
  refine OL.q (Y.lenSl Tryd.underlying28 rfl) rfl ?_
  refine OL.q (Y.move rfl) rfl ?_
  refine OL.nil ?_
  refine EX.seq ?_
  refine CW.block ?_
  generalize hbb : b3 = bb
  refine CW.loop (α := Nat) ⟨fun k => k ≤ x.n ∧ ∀ j, j < k → okSort S x j = true, fun k => [(0, .pointer (some ⟨t, 0, none⟩)), (3, .pointer (some ⟨bb, 0, none⟩)), (8, .slice x.a x.n x.c), (9, .int .i64 x.n), (10, .int .i64 k)], fun _ => [blk bb (termCells x) 30]⟩
    (fun k => x.n - k) 0 [0] ⟨Nat.zero_le _, fun j h => absurd h (Nat.not_lt_zero _)⟩ ⟨rfl, rfl, rfl, rfl, rfl, trivial⟩ rfl rfl ?_
  rintro k ⟨hk, hj⟩
  dsimp only at hk hj ⊢
  refine CW.seq ?_
  refine CW.region ?_
  refine OL.q (Y.lss rfl rfl) rfl ?_
  refine OL.nil ?_
  refine EX.seq ?_
  refine CW.seq ?_
  refine CW.cond rfl (fun h0 => ?_) (fun h0 => ?_)
  · repeat (first | replace h0 := yes h0 | replace h0 := no h0 | replace h0 := nyes h0 | replace h0 := nno h0)
    obtain ⟨kd, hkd⟩ : ∃ p, x.kids[k]? = some p := ⟨_, List.getElem?_eq_getElem (by omega)⟩
    obtain ⟨m, hm, hml⟩ := bad_nat (hnr.kids kd (mem_of hkd))
    obtain ⟨z, hz⟩ : ∃ z, S.of[m]? = some z := ⟨_, List.getElem?_eq_getElem (by rw [hS.on]; exact hml)⟩
    have hov := hS.onv
    refine CW.skip ?_
    refine EX.seq ?_
    refine CW.seq ?_
    refine CW.block ?_
    refine CW.seq ?_
    refine CW.region ?_
    refine OL.q (Y.move rfl) rfl ?_
    refine OL.q (Y.index (k := k) Tryd.underlying28 C3 rfl rfl (Ent.frame (Up.rd _ _ _ _) hK) (by omega) (by omega)) rfl ?_
    refine OL.q (Y.load T3 rfl (cellsIs_at0 (rd_at (Ent.frame (Up.rd _ _ _ _) hK) (mget intCells hkd)) rfl)) rfl ?_
    refine OL.q (Y.assign rfl) rfl ?_
    refine OL.q (Y.assign rfl) rfl ?_
    refine OL.nil ?_
    refine EX.seq ?_
    refine CW.seq ?_
    refine CW.drawn [(true, 0), (true, 1), (true, 2), (true, 3), (true, 4), (true, 5), (true, 6), (true, 7), (true, 8), (true, 9), (false, 10), (true, 11)] [] [0] mixed (by kernel_rfl) (by repeat (first | exact PanicOk.body | refine PanicOk.then ?_ | refine PanicOk.block ?_)) (by kernel_rfl) rfl rfl rfl rfl ?_
    refine OL.qt (Y.move rfl) rfl ?_
    refine OL.qt (Y.nilCheck rfl) rfl ?_
    refine OL.qt (Y.field L97_5 rfl) rfl ?_
    refine OL.qt (Y.load T28 rfl (Ent.via hF (Up.cellIs _ _ _) (Ent.at 0 rfl (Up.cellIs _ _ _) (blk_cell rfl)))) rfl ?_
    refine OL.qt (Y.move rfl) rfl ?_
    refine OL.qt (Y.index (k := m) Tryd.underlying28 C3 rfl rfl (Ent.via hF (Up.rd _ _ _ _) (Ent.at 5 rfl (Up.rd _ _ _ _) row_rd)) hm (by omega)) rfl ?_
    refine OL.qt (Y.load T3 rfl (cellsIs_at0 (rd_at (Ent.via hF (Up.rd _ _ _ _) (Ent.at 5 rfl (Up.rd _ _ _ _) row_rd)) (mget intCells hz)) rfl)) rfl ?_
    refine OL.qt (Y.move rfl) rfl ?_
    refine OL.qt (Y.loadN S30 rfl rfl (Ent.at 0 rfl (Up.cellsIs _ _ _) blk_cells)) rfl ?_
    refine OL.qt (Y.move rfl) rfl ?_
    refine OL.call [] (wanted_any t S v M hS x hxl hn hnr k (by omega)) Tryd.call87 rfl rfl rfl rfl (Ent.frame (Up.and (Up.sl _) (Up.rd _ _ _ _)) hF0) rfl ?_
    rintro _ _ ⟨rfl, rfl⟩
    refine ⟨rfl, rfl, ?_⟩
    refine OL.qt (Y.neq rfl rfl) rfl ?_
    refine OL.nil ?_
    refine EX.tail ?_
    refine OL.nil ?_
    refine EX.seq ?_
    refine CW.cond rfl (fun h1 => ?_) (fun h1 => ?_)
    · repeat (first | replace h1 := yes h1 | replace h1 := no h1 | replace h1 := nyes h1 | replace h1 := nno h1)
      refine CW.seq ?_
      refine CW.region ?_
      refine OL.q (Y.assign rfl) rfl ?_
      refine OL.nil ?_
      refine EX.seq ?_
      refine CW.ret ?_
      refine EX.retB ?_
      refine EX.retT ?_
      refine EX.retT ?_
      refine EX.retB ?_
      refine EX.retT ?_
      have hd : okSort S x k = false := by unfold okSort; rw [getD_at hkd, hm, ofAt_is hz]; exact decide_eq_false (by omega)
      exact EX.fin1 [] rfl rfl rfl ⟨by rw [sortE_eq, not_all_range (by omega) hd]; rfl, rfl⟩
    · repeat (first | replace h1 := yes h1 | replace h1 := no h1 | replace h1 := nyes h1 | replace h1 := nno h1)
      refine CW.skip ?_
      refine EX.norB ?_
      refine EX.seq ?_
      refine CW.region ?_
      refine OL.q (Y.add1 rfl rfl rfl (by omega)) rfl ?_
      refine OL.q (Y.move rfl) rfl ?_
      refine OL.nil ?_
      exact EX.next (k + 1) [0] (show k + 1 ≤ x.n ∧ ∀ j, j < k + 1 → okSort S x j = true from ⟨by omega, fun j h => by
        by_cases e : j = k
        · rw [e]; unfold okSort; rw [getD_at hkd, hm, ofAt_is hz]; exact decide_eq_true (by omega)
        · exact hj j (by omega)⟩) (show x.n - (k + 1) < x.n - k by omega) ⟨rfl, rfl, rfl, rfl, rfl, trivial⟩ rfl rfl
  · repeat (first | replace h0 := yes h0 | replace h0 := no h0 | replace h0 := nyes h0 | replace h0 := nno h0)
    refine CW.exit ?_
    refine EX.exitT ?_
    refine EX.exitT ?_
    refine EX.exitB ?_
    refine EX.seq ?_
    refine CW.seq ?_
    refine CW.region ?_
    refine OL.q (Y.assign rfl) rfl ?_
    refine OL.nil ?_
    refine EX.seq ?_
    refine CW.ret ?_
    exact EX.fin1 [] rfl rfl rfl ⟨by rw [sortE_eq, all_range.2 (fun j h => hj j (by omega))]; rfl, rfl⟩

theorem wrongProduct_any (t : Nat) (S : DagS) (v : DagV) (M : PH) (hS : DagOk M S v) (x : TermC) (hxl : x.kids.length = x.n) (hn : x.n ≤ 1000000) (hnr : Near S v x) :
    FS Tryd.prog 60 [.pointer (some ⟨t, 0, none⟩), termVal x] (dagK t S v M x) [] (fun r H => r = .int .i64 (prodE S x) ∧ H = []) := by
  refine FS.intro (N := 31) Tryd.func60 rfl rfl rfl (fun F w0 hF => ?_)
  have hK : Ent F (rd x.a x.n 1 (x.kids.map intCells)) := fun h hs => (hF h hs).2
  have hF0 := hF
  replace hF : Ent F (fun h => sl (dagR t S v M) h) := fun h hs => (hF0 h hs).1
  refine CW.seq ?_
  refine CW.region ?_
  refine OL.box rfl rfl rfl (fun b3 => ⟨rfl, rfl, ?_⟩)
  refine OL.q (Y.assign rfl) rfl ?_
  refine OL.nil ?_
  refine EX.seq ?_
  refine CW.seq ?_
  refine CW.seq ?_
  refine CW.region ?_
  refine OL.q (Y.field L30_0 rfl) rfl ?_
  refine OL.q (Y.load T3 rfl (Ent.at 0 rfl (Up.cellIs _ _ _) (blk_cell rfl))) rfl ?_
  refine OL.q (Y.neq rfl rfl) rfl ?_
  refine OL.nil ?_
  refine EX.seq ?_
  refine CW.cond rfl (fun h0 => ?_) (fun h0 => ?_)
  · repeat (first | replace h0 := yes h0 | replace h0 := no h0 | replace h0 := nyes h0 | replace h0 := nno h0)
    refine CW.seq ?_
    refine CW.region ?_
    refine OL.q (Y.assign rfl) rfl ?_
    refine OL.nil ?_
    refine EX.seq ?_
    refine CW.ret ?_
    refine EX.retT ?_
    exact EX.fin1 [] rfl rfl rfl ⟨by unfold prodE; rw [if_neg (fun q => h0 q.1)], rfl⟩
  · repeat (first | replace h0 := yes h0 | replace h0 := no h0 | replace h0 := nyes h0 | replace h0 := nno h0)
    refine CW.skip ?_
    refine EX.seq ?_
    refine CW.seq ?_
    refine CW.region ?_
    refine OL.q (Y.assign rfl) rfl ?_
    refine OL.nil ?_
    refine EX.seq ?_
    refine CW.seq ?_
    refine CW.seq ?_
    refine CW.region ?_
    refine OL.q (Y.field L30_2 rfl) rfl ?_
    refine OL.q (Y.load T28 rfl (Ent.at 0 rfl (Up.cellIs _ _ _) (blk_cell rfl))) rfl ?_
    refine OL.q (Y.lenSl Tryd.underlying28 rfl) rfl ?_
    refine OL.q (Y.move rfl) rfl ?_
    refine OL.nil ?_
    refine EX.seq ?_
    refine CW.block ?_
    refine CW.loop (α := Nat) ⟨fun k => k ≤ x.n, fun k => [(0, .pointer (some ⟨t, 0, none⟩)), (5, .int .i64 (freeK S (x.kids.take k))), (12, .slice x.a x.n x.c), (13, .int .i64 x.n), (14, .int .i64 k)], fun _ => []⟩
      (fun k => x.n - k) 0 [] (Nat.zero_le _) ⟨rfl, rfl, rfl, rfl, rfl, trivial⟩ rfl rfl ?_
    rintro k hk
    dsimp only at hk ⊢
    refine CW.seq ?_
    refine CW.region ?_
    refine OL.q (Y.lss rfl rfl) rfl ?_
    refine OL.nil ?_
    refine EX.seq ?_
    refine CW.seq ?_
    refine CW.cond rfl (fun h1 => ?_) (fun h1 => ?_)
    · repeat (first | replace h1 := yes h1 | replace h1 := no h1 | replace h1 := nyes h1 | replace h1 := nno h1)
      obtain ⟨kd, hkd⟩ : ∃ p, x.kids[k]? = some p := ⟨_, List.getElem?_eq_getElem (by omega)⟩
      obtain ⟨m, hm, hml⟩ := bad_nat (hnr.kids kd (mem_of hkd))
      obtain ⟨z, hz⟩ : ∃ z, S.of[m]? = some z := ⟨_, List.getElem?_eq_getElem (by rw [hS.on]; exact hml)⟩
      have hov := hS.onv
      have hcv := hS.cnv
      obtain ⟨b, hb⟩ : ∃ z, S.cons[m]? = some z := ⟨_, List.getElem?_eq_getElem (by rw [hS.cn]; exact hml)⟩
      have hbc : consAt S kd = b := by rw [hm]; exact getD_at hb
      have hfk : freeK S (x.kids.take k) ≤ k := by unfold freeK; exact Nat.le_trans (List.length_filter_le _ _) (by simp; omega)
      refine CW.skip ?_
      refine EX.seq ?_
      refine CW.seq ?_
      refine CW.block ?_
      refine CW.seq ?_
      refine CW.region ?_
      refine OL.q (Y.index (k := k) Tryd.underlying28 C3 rfl rfl (Ent.frame (Up.rd _ _ _ _) hK) (by omega) (by omega)) rfl ?_
      refine OL.q (Y.load T3 rfl (cellsIs_at0 (rd_at (Ent.frame (Up.rd _ _ _ _) hK) (mget intCells hkd)) rfl)) rfl ?_
      refine OL.q (Y.assign rfl) rfl ?_
      refine OL.nil ?_
      refine EX.seq ?_
      refine CW.seq ?_
      refine CW.region ?_
      refine OL.q (Y.move rfl) rfl ?_
      refine OL.q (Y.nilCheck rfl) rfl ?_
      refine OL.q (Y.field L97_6 rfl) rfl ?_
      refine OL.q (Y.load T95 rfl (Ent.via hF (Up.cellIs _ _ _) (Ent.at 0 rfl (Up.cellIs _ _ _) (blk_cell rfl)))) rfl ?_
      refine OL.q (Y.move rfl) rfl ?_
      refine OL.q (Y.index (k := m) Tryd.underlying95 C4 rfl rfl (Ent.via hF (Up.rd _ _ _ _) (Ent.at 6 rfl (Up.rd _ _ _ _) row_rd)) hm (by omega)) rfl ?_
      refine OL.q (Y.load T4 rfl (cellsIs_at0 (rd_at (Ent.via hF (Up.rd _ _ _ _) (Ent.at 6 rfl (Up.rd _ _ _ _) row_rd)) (mget boolCells hb)) rfl)) rfl ?_
      refine OL.q (Y.not rfl) rfl ?_
      refine OL.nil ?_
      refine EX.seq ?_
      refine CW.cond rfl (fun h2 => ?_) (fun h2 => ?_)
      · repeat (first | replace h2 := yes h2 | replace h2 := no h2 | replace h2 := nyes h2 | replace h2 := nno h2)
        refine CW.region ?_
        refine OL.q (Y.move rfl) rfl ?_
        refine OL.q (Y.add1 rfl rfl rfl (by omega)) rfl ?_
        refine OL.q (Y.assign rfl) rfl ?_
        refine OL.nil ?_
        refine EX.norB ?_
        refine EX.seq ?_
        refine CW.region ?_
        refine OL.q (Y.add1 rfl rfl rfl (by omega)) rfl ?_
        refine OL.q (Y.move rfl) rfl ?_
        refine OL.nil ?_
        have e9 : freeK S (x.kids.take (k + 1)) = freeK S (x.kids.take k) + 1 := by unfold freeK; rw [take_snoc hkd, List.filter_append]; simp [hbc, h2]
        exact EX.next (k + 1) [] (show k + 1 ≤ x.n by omega) (show x.n - (k + 1) < x.n - k by omega) ⟨rfl, (by rw [e9]; rfl), rfl, rfl, rfl, trivial⟩ rfl rfl
      · repeat (first | replace h2 := yes h2 | replace h2 := no h2 | replace h2 := nyes h2 | replace h2 := nno h2)
        refine CW.skip ?_
        refine EX.norB ?_
        refine EX.seq ?_
        refine CW.region ?_
        refine OL.q (Y.add1 rfl rfl rfl (by omega)) rfl ?_
        refine OL.q (Y.move rfl) rfl ?_
        refine OL.nil ?_
        have e9 : freeK S (x.kids.take (k + 1)) = freeK S (x.kids.take k) := by unfold freeK; rw [take_snoc hkd, List.filter_append]; simp [hbc, h2]
        exact EX.next (k + 1) [] (show k + 1 ≤ x.n by omega) (show x.n - (k + 1) < x.n - k by omega) ⟨rfl, (by rw [e9]; rfl), rfl, rfl, rfl, trivial⟩ rfl rfl
    · repeat (first | replace h1 := yes h1 | replace h1 := no h1 | replace h1 := nyes h1 | replace h1 := nno h1)
      refine CW.exit ?_
      refine EX.exitT ?_
      refine EX.exitT ?_
      refine EX.exitB ?_
      refine EX.seq ?_
      refine CW.seq ?_
      refine CW.seq ?_
      refine CW.region ?_
      refine OL.q (Y.move rfl) rfl ?_
      refine OL.q (Y.gtr rfl rfl) rfl ?_
      refine OL.nil ?_
      refine EX.seq ?_
      refine CW.cond rfl (fun h3 => ?_) (fun h3 => ?_)
      · repeat (first | replace h3 := yes h3 | replace h3 := no h3 | replace h3 := nyes h3 | replace h3 := nno h3)
        have hkn : k = x.n := by omega
        rw [hkn, List.take_of_length_le (by omega)] at h3
        refine CW.seq ?_
        refine CW.region ?_
        refine OL.q (Y.assign rfl) rfl ?_
        refine OL.nil ?_
        refine EX.seq ?_
        refine CW.ret ?_
        refine EX.retT ?_
        exact EX.fin1 [] rfl rfl rfl ⟨by unfold prodE; rw [if_pos ⟨by omega, by omega⟩], rfl⟩
      · repeat (first | replace h3 := yes h3 | replace h3 := no h3 | replace h3 := nyes h3 | replace h3 := nno h3)
        have hkn : k = x.n := by omega
        rw [hkn, List.take_of_length_le (by omega)] at h3
        refine CW.skip ?_
        refine EX.seq ?_
        refine CW.seq ?_
        refine CW.region ?_
        refine OL.q (Y.assign rfl) rfl ?_
        refine OL.nil ?_
        refine EX.seq ?_
        refine CW.ret ?_
        exact EX.fin1 [] rfl rfl rfl ⟨by unfold prodE; rw [if_neg (fun q => by have := q.2; omega)], rfl⟩
end Go.Proofs.YtmlnnepgigieaaaDoor
