/- The document's arena: rows and terms held against each other. -/
import Derived.Test.YtmlnnepgigieaaaDoorDagI
namespace Go.Proofs.YtmlnnepgigieaaaDoor
open Go.Sx



theorem sameInts_any (a b : Option Addr) (n c m d : Nat) (xs ys : List Int) (hx : xs.length = n) (hy : ys.length = m) (hn : n ≤ 1000000) :
    FS Tryd.prog 26 [.slice a n c, .slice b m d] (fun h => rd a n 1 (xs.map intCells) h ∧ rd b m 1 (ys.map intCells) h) [] (fun v H => v = .bool (decide (xs = ys)) ∧ H = []) := by
  refine FS.intro (N := 26) Tryd.func26 rfl rfl rfl (fun F w0 hF => ?_)
  refine CW.seq ?_
  refine CW.region ?_
  refine OL.q (Y.assign rfl) rfl ?_
  refine OL.nil ?_
  refine EX.seq ?_
  refine CW.seq ?_
  refine CW.seq ?_
  refine CW.region ?_
  refine OL.q (Y.move rfl) rfl ?_
  refine OL.q (Y.lenSl Tryd.underlying28 rfl) rfl ?_
  refine OL.q (Y.move rfl) rfl ?_
  refine OL.q (Y.lenSl Tryd.underlying28 rfl) rfl ?_
  refine OL.q (Y.neq rfl rfl) rfl ?_
  refine OL.nil ?_
  refine EX.seq ?_
  refine CW.cond rfl (fun h0 => ?_) (fun h0 => ?_)
  · repeat (first | replace h0 := yes h0 | replace h0 := no h0 | replace h0 := nyes h0 | replace h0 := nno h0)
    refine CW.seq ?_
    refine CW.region ?_
    refine OL.q (Y.assign rfl) rfl ?_
    refine OL.nil ?_
    refine EX.seq ?_
    refine CW.ret ?_
    refine EX.retT ?_
    have he : xs ≠ ys := fun e => by subst e; omega
    exact EX.fin1 [] rfl rfl rfl ⟨by simp [he], rfl⟩
  · repeat (first | replace h0 := yes h0 | replace h0 := no h0 | replace h0 := nyes h0 | replace h0 := nno h0)
    have hnm : n = m := by omega
    subst hnm
    refine CW.skip ?_
    refine EX.seq ?_
    refine CW.seq ?_
    refine CW.seq ?_
    refine CW.region ?_
    refine OL.q (Y.assign rfl) rfl ?_
    refine OL.nil ?_
    refine EX.seq ?_
    refine CW.block ?_
    refine CW.loop (α := Nat) ⟨fun k => k ≤ n ∧ xs.take k = ys.take k, fun k => [(0, .slice a n c), (1, .slice b n d), (5, .int .i64 k)], fun _ => []⟩
      (fun k => n - k) 0 [] ⟨Nat.zero_le _, rfl⟩ ⟨rfl, rfl, rfl, trivial⟩ rfl rfl ?_
    rintro k ⟨hk, hj⟩
    dsimp only at hk hj ⊢
    refine CW.seq ?_
    refine CW.seq ?_
    refine CW.region ?_
    refine OL.q (Y.move rfl) rfl ?_
    refine OL.q (Y.move rfl) rfl ?_
    refine OL.q (Y.lenSl Tryd.underlying28 rfl) rfl ?_
    refine OL.q (Y.lss rfl rfl) rfl ?_
    refine OL.nil ?_
    refine EX.seq ?_
    refine CW.cond rfl (fun h1 => ?_) (fun h1 => ?_)
    · repeat (first | replace h1 := yes h1 | replace h1 := no h1 | replace h1 := nyes h1 | replace h1 := nno h1)
      obtain ⟨s, hp⟩ : ∃ p, xs[k]? = some p := ⟨_, List.getElem?_eq_getElem (by omega)⟩
      obtain ⟨s', hq⟩ : ∃ p, ys[k]? = some p := ⟨_, List.getElem?_eq_getElem (by omega)⟩
      refine CW.skip ?_
      refine EX.seq ?_
      refine CW.seq ?_
      refine CW.block ?_
      refine CW.seq ?_
      refine CW.drawn [(true, 0), (true, 1), (true, 2), (true, 3), (true, 4), (true, 5), (true, 6), (true, 7), (true, 8)] [] [] mixed (by kernel_rfl) (by repeat (first | exact PanicOk.body | refine PanicOk.then ?_ | refine PanicOk.block ?_)) (by kernel_rfl) rfl rfl rfl rfl ?_
      refine OL.qt (Y.move rfl) rfl ?_
      refine OL.qt (Y.move rfl) rfl ?_
      refine OL.qt (Y.index (k := k) Tryd.underlying28 C3 rfl rfl (Ent.frame (Up.rd _ _ _ _) (fun h hs => (hF h hs).1)) (by omega) (by omega)) rfl ?_
      refine OL.qt (Y.load T3 rfl (cellsIs_at0 (rd_at (Ent.frame (Up.rd _ _ _ _) (fun h hs => (hF h hs).1)) (mget intCells hp)) rfl)) rfl ?_
      refine OL.qt (Y.move rfl) rfl ?_
      refine OL.qt (Y.move rfl) rfl ?_
      refine OL.qt (Y.index (k := k) Tryd.underlying28 C3 rfl rfl (Ent.frame (Up.rd _ _ _ _) (fun h hs => (hF h hs).2)) (by omega) (by omega)) rfl ?_
      refine OL.qt (Y.load T3 rfl (cellsIs_at0 (rd_at (Ent.frame (Up.rd _ _ _ _) (fun h hs => (hF h hs).2)) (mget intCells hq)) rfl)) rfl ?_
      refine OL.qt (Y.neq rfl rfl) rfl ?_
      refine OL.nil ?_
      refine EX.tail ?_
      refine OL.nil ?_
      refine EX.seq ?_
      refine CW.cond rfl (fun h2 => ?_) (fun h2 => ?_)
      · repeat (first | replace h2 := yes h2 | replace h2 := no h2 | replace h2 := nyes h2 | replace h2 := nno h2)
        refine CW.seq ?_
        refine CW.region ?_
        refine OL.q (Y.assign rfl) rfl ?_
        refine OL.nil ?_
        refine EX.seq ?_
        refine CW.ret ?_
        refine EX.retB ?_
        refine EX.retT ?_
        refine EX.retT ?_
        refine EX.retB ?_
        refine EX.retT ?_
        have he : xs ≠ ys := fun e => by
          subst e
          rw [hp] at hq; cases hq
          exact h2 rfl
        exact EX.fin1 [] rfl rfl rfl ⟨by simp [he], rfl⟩
      · repeat (first | replace h2 := yes h2 | replace h2 := no h2 | replace h2 := nyes h2 | replace h2 := nno h2)
        refine CW.skip ?_
        refine EX.norB ?_
        refine EX.seq ?_
        refine CW.region ?_
        refine OL.q (Y.move rfl) rfl ?_
        refine OL.q (Y.add1 rfl rfl rfl (by omega)) rfl ?_
        refine OL.q (Y.assign rfl) rfl ?_
        refine OL.nil ?_
        refine EX.next (k + 1) [] (show k + 1 ≤ n ∧ _ from ⟨by omega, ?_⟩) (show n - (k + 1) < n - k by omega) ⟨rfl, rfl, rfl, trivial⟩ rfl rfl
        rw [take_snoc hp, take_snoc hq, hj]
        have : s = s' := Classical.not_not.1 h2
        rw [this]
    · repeat (first | replace h1 := yes h1 | replace h1 := no h1 | replace h1 := nyes h1 | replace h1 := nno h1)
      refine CW.exit ?_
      refine EX.exitT ?_
      refine EX.exitT ?_
      refine EX.exitB ?_
      refine EX.seq ?_
      refine CW.seq ?_
      refine CW.region ?_
      refine OL.q (Y.assign rfl) rfl ?_
      refine OL.nil ?_
      refine EX.seq ?_
      refine CW.ret ?_
      have hkn : k = n := by omega
      have he : xs = ys := by
        rw [List.take_of_length_le (by omega), List.take_of_length_le (by omega)] at hj
        exact hj
      exact EX.fin1 [] rfl rfl rfl ⟨by simp [he], rfl⟩

theorem rsame_any (x y : TermC) (hx : x.kids.length = x.n) (hy : y.kids.length = y.n) (hn : x.n ≤ 1000000) :
    FS Tryd.prog 20 [termVal x, termVal y] (fun h => rd x.a x.n 1 (x.kids.map intCells) h ∧ rd y.a y.n 1 (y.kids.map intCells) h) [] (fun v H => v = .bool (sameT x y) ∧ H = []) := by
  refine FS.intro (N := 31) Tryd.func20 rfl rfl rfl (fun F w0 hF => ?_)
  refine CW.seq ?_
  refine CW.region ?_
  refine OL.box rfl rfl rfl (fun b2 => ⟨rfl, rfl, ?_⟩)
  refine OL.box rfl rfl rfl (fun b3 => ⟨rfl, rfl, ?_⟩)
  refine OL.q (Y.assign rfl) rfl ?_
  refine OL.nil ?_
  refine EX.seq ?_
  refine CW.seq ?_
  refine CW.region ?_
  refine OL.q (Y.field L30_0 rfl) rfl ?_
  refine OL.q (Y.load T3 rfl (Ent.at 0 rfl (Up.cellIs _ _ _) (blk_cell rfl))) rfl ?_
  refine OL.q (Y.field L30_0 rfl) rfl ?_
  refine OL.q (Y.load T3 rfl (Ent.at 1 rfl (Up.cellIs _ _ _) (blk_cell rfl))) rfl ?_
  refine OL.q (Y.eql rfl rfl) rfl ?_
  refine OL.q (Y.move rfl) rfl ?_
  refine OL.guard (s := 10) rfl (fun g1_5 => ?_) (fun g1_5 => ?_)
  · have ng1_5 := g1_5
    repeat (first | replace ng1_5 := yes ng1_5 | replace ng1_5 := no ng1_5 | replace ng1_5 := nyes ng1_5 | replace ng1_5 := nno ng1_5)
    refine OL.on g1_5 rfl rfl ?_
    refine OL.q (Y.field L30_1 rfl) rfl ?_
    refine OL.on g1_5 rfl rfl ?_
    refine OL.q (Y.load T3 rfl (Ent.at 0 rfl (Up.cellIs _ _ _) (blk_cell rfl))) rfl ?_
    refine OL.on g1_5 rfl rfl ?_
    refine OL.q (Y.field L30_1 rfl) rfl ?_
    refine OL.on g1_5 rfl rfl ?_
    refine OL.q (Y.load T3 rfl (Ent.at 1 rfl (Up.cellIs _ _ _) (blk_cell rfl))) rfl ?_
    refine OL.on g1_5 rfl rfl ?_
    refine OL.q (Y.eql rfl rfl) rfl ?_
    refine OL.q (Y.pickT rfl g1_5 rfl) rfl ?_
    refine OL.q (Y.move rfl) rfl ?_
    refine OL.guard (s := 17) rfl (fun g1_12 => ?_) (fun g1_12 => ?_)
    · have ng1_12 := g1_12
      repeat (first | replace ng1_12 := yes ng1_12 | replace ng1_12 := no ng1_12 | replace ng1_12 := nyes ng1_12 | replace ng1_12 := nno ng1_12)
      refine OL.on g1_12 rfl rfl ?_
      refine OL.q (Y.field L30_3 rfl) rfl ?_
      refine OL.on g1_12 rfl rfl ?_
      refine OL.q (Y.load T9 rfl (Ent.at 0 rfl (Up.cellIs _ _ _) (blk_cell rfl))) rfl ?_
      refine OL.on g1_12 rfl rfl ?_
      refine OL.q (Y.field L30_3 rfl) rfl ?_
      refine OL.on g1_12 rfl rfl ?_
      refine OL.q (Y.load T9 rfl (Ent.at 1 rfl (Up.cellIs _ _ _) (blk_cell rfl))) rfl ?_
      refine OL.on g1_12 rfl rfl ?_
      refine OL.q (Y.eqlS rfl rfl) rfl ?_
      refine OL.q (Y.pickT rfl g1_12 rfl) rfl ?_
      refine OL.q (Y.move rfl) rfl ?_
      refine OL.guard (s := 24) rfl (fun g1_19 => ?_) (fun g1_19 => ?_)
      · have ng1_19 := g1_19
        repeat (first | replace ng1_19 := yes ng1_19 | replace ng1_19 := no ng1_19 | replace ng1_19 := nyes ng1_19 | replace ng1_19 := nno ng1_19)
        refine OL.on g1_19 rfl rfl ?_
        refine OL.q (Y.field L30_2 rfl) rfl ?_
        refine OL.on g1_19 rfl rfl ?_
        refine OL.q (Y.load T28 rfl (Ent.at 0 rfl (Up.cellIs _ _ _) (blk_cell rfl))) rfl ?_
        refine OL.on g1_19 rfl rfl ?_
        refine OL.q (Y.field L30_2 rfl) rfl ?_
        refine OL.on g1_19 rfl rfl ?_
        refine OL.q (Y.load T28 rfl (Ent.at 1 rfl (Up.cellIs _ _ _) (blk_cell rfl))) rfl ?_
        refine OL.on g1_19 rfl rfl ?_
        refine OL.call [] (sameInts_any x.a y.a x.n x.c y.n y.c x.kids y.kids hx hy hn) Tryd.call26 rfl rfl rfl rfl (fun h hs => ⟨Ent.frame (Up.rd _ _ _ _) (fun h hs => (hF h hs).1) h hs, Ent.frame (Up.rd _ _ _ _) (fun h hs => (hF h hs).2) h hs⟩) rfl ?_
        rintro _ _ ⟨rfl, rfl⟩
        refine ⟨rfl, rfl, ?_⟩
        refine OL.q (Y.pickT rfl g1_19 rfl) rfl ?_
        refine OL.q (Y.assign rfl) rfl ?_
        refine OL.nil ?_
        refine EX.seq ?_
        refine CW.ret ?_
        exact EX.fin1 [] rfl rfl rfl ⟨congrArg Value.bool (by unfold sameT; first | contradiction | (simp [*]; done)), rfl⟩
      · have ng1_19 := g1_19
        repeat (first | replace ng1_19 := yes ng1_19 | replace ng1_19 := no ng1_19 | replace ng1_19 := nyes ng1_19 | replace ng1_19 := nno ng1_19)
        refine OL.no g1_19 rfl rfl rfl ?_
        refine OL.no g1_19 rfl rfl rfl ?_
        refine OL.no g1_19 rfl rfl rfl ?_
        refine OL.no g1_19 rfl rfl rfl ?_
        refine OL.no g1_19 rfl rfl rfl ?_
        refine OL.q (Y.pickF rfl g1_19 rfl) rfl ?_
        refine OL.q (Y.assign rfl) rfl ?_
        refine OL.nil ?_
        refine EX.seq ?_
        refine CW.ret ?_
        exact EX.fin1 [] rfl rfl rfl ⟨congrArg Value.bool (by unfold sameT; first | contradiction | (simp [*]; done)), rfl⟩
    · have ng1_12 := g1_12
      repeat (first | replace ng1_12 := yes ng1_12 | replace ng1_12 := no ng1_12 | replace ng1_12 := nyes ng1_12 | replace ng1_12 := nno ng1_12)
      refine OL.no g1_12 rfl rfl rfl ?_
      refine OL.no g1_12 rfl rfl rfl ?_
      refine OL.no g1_12 rfl rfl rfl ?_
      refine OL.no g1_12 rfl rfl rfl ?_
      refine OL.no g1_12 rfl rfl rfl ?_
      refine OL.q (Y.pickF rfl g1_12 rfl) rfl ?_
      refine OL.q (Y.move rfl) rfl ?_
      refine OL.guard (s := 24) rfl (fun g1_19 => ?_) (fun g1_19 => ?_)
      · have ng1_19 := g1_19
        repeat (first | replace ng1_19 := yes ng1_19 | replace ng1_19 := no ng1_19 | replace ng1_19 := nyes ng1_19 | replace ng1_19 := nno ng1_19)
        refine OL.on g1_19 rfl rfl ?_
        refine OL.q (Y.field L30_2 rfl) rfl ?_
        refine OL.on g1_19 rfl rfl ?_
        refine OL.q (Y.load T28 rfl (Ent.at 0 rfl (Up.cellIs _ _ _) (blk_cell rfl))) rfl ?_
        refine OL.on g1_19 rfl rfl ?_
        refine OL.q (Y.field L30_2 rfl) rfl ?_
        refine OL.on g1_19 rfl rfl ?_
        refine OL.q (Y.load T28 rfl (Ent.at 1 rfl (Up.cellIs _ _ _) (blk_cell rfl))) rfl ?_
        refine OL.on g1_19 rfl rfl ?_
        refine OL.call [] (sameInts_any x.a y.a x.n x.c y.n y.c x.kids y.kids hx hy hn) Tryd.call26 rfl rfl rfl rfl (fun h hs => ⟨Ent.frame (Up.rd _ _ _ _) (fun h hs => (hF h hs).1) h hs, Ent.frame (Up.rd _ _ _ _) (fun h hs => (hF h hs).2) h hs⟩) rfl ?_
        rintro _ _ ⟨rfl, rfl⟩
        refine ⟨rfl, rfl, ?_⟩
        refine OL.q (Y.pickT rfl g1_19 rfl) rfl ?_
        refine OL.q (Y.assign rfl) rfl ?_
        refine OL.nil ?_
        refine EX.seq ?_
        refine CW.ret ?_
        exact EX.fin1 [] rfl rfl rfl ⟨congrArg Value.bool (by unfold sameT; first | contradiction | (simp [*]; done)), rfl⟩
      · have ng1_19 := g1_19
        repeat (first | replace ng1_19 := yes ng1_19 | replace ng1_19 := no ng1_19 | replace ng1_19 := nyes ng1_19 | replace ng1_19 := nno ng1_19)
        refine OL.no g1_19 rfl rfl rfl ?_
        refine OL.no g1_19 rfl rfl rfl ?_
        refine OL.no g1_19 rfl rfl rfl ?_
        refine OL.no g1_19 rfl rfl rfl ?_
        refine OL.no g1_19 rfl rfl rfl ?_
        refine OL.q (Y.pickF rfl g1_19 rfl) rfl ?_
        refine OL.q (Y.assign rfl) rfl ?_
        refine OL.nil ?_
        refine EX.seq ?_
        refine CW.ret ?_
        exact EX.fin1 [] rfl rfl rfl ⟨congrArg Value.bool (by unfold sameT; first | contradiction | (simp [*]; done)), rfl⟩
  · have ng1_5 := g1_5
    repeat (first | replace ng1_5 := yes ng1_5 | replace ng1_5 := no ng1_5 | replace ng1_5 := nyes ng1_5 | replace ng1_5 := nno ng1_5)
    refine OL.no g1_5 rfl rfl rfl ?_
    refine OL.no g1_5 rfl rfl rfl ?_
    refine OL.no g1_5 rfl rfl rfl ?_
    refine OL.no g1_5 rfl rfl rfl ?_
    refine OL.no g1_5 rfl rfl rfl ?_
    refine OL.q (Y.pickF rfl g1_5 rfl) rfl ?_
    refine OL.q (Y.move rfl) rfl ?_
    refine OL.guard (s := 17) rfl (fun g1_12 => ?_) (fun g1_12 => ?_)
    · have ng1_12 := g1_12
      repeat (first | replace ng1_12 := yes ng1_12 | replace ng1_12 := no ng1_12 | replace ng1_12 := nyes ng1_12 | replace ng1_12 := nno ng1_12)
      refine OL.on g1_12 rfl rfl ?_
      refine OL.q (Y.field L30_3 rfl) rfl ?_
      refine OL.on g1_12 rfl rfl ?_
      refine OL.q (Y.load T9 rfl (Ent.at 0 rfl (Up.cellIs _ _ _) (blk_cell rfl))) rfl ?_
      refine OL.on g1_12 rfl rfl ?_
      refine OL.q (Y.field L30_3 rfl) rfl ?_
      refine OL.on g1_12 rfl rfl ?_
      refine OL.q (Y.load T9 rfl (Ent.at 1 rfl (Up.cellIs _ _ _) (blk_cell rfl))) rfl ?_
      refine OL.on g1_12 rfl rfl ?_
      refine OL.q (Y.eqlS rfl rfl) rfl ?_
      refine OL.q (Y.pickT rfl g1_12 rfl) rfl ?_
      refine OL.q (Y.move rfl) rfl ?_
      refine OL.guard (s := 24) rfl (fun g1_19 => ?_) (fun g1_19 => ?_)
      · have ng1_19 := g1_19
        repeat (first | replace ng1_19 := yes ng1_19 | replace ng1_19 := no ng1_19 | replace ng1_19 := nyes ng1_19 | replace ng1_19 := nno ng1_19)
        refine OL.on g1_19 rfl rfl ?_
        refine OL.q (Y.field L30_2 rfl) rfl ?_
        refine OL.on g1_19 rfl rfl ?_
        refine OL.q (Y.load T28 rfl (Ent.at 0 rfl (Up.cellIs _ _ _) (blk_cell rfl))) rfl ?_
        refine OL.on g1_19 rfl rfl ?_
        refine OL.q (Y.field L30_2 rfl) rfl ?_
        refine OL.on g1_19 rfl rfl ?_
        refine OL.q (Y.load T28 rfl (Ent.at 1 rfl (Up.cellIs _ _ _) (blk_cell rfl))) rfl ?_
        refine OL.on g1_19 rfl rfl ?_
        refine OL.call [] (sameInts_any x.a y.a x.n x.c y.n y.c x.kids y.kids hx hy hn) Tryd.call26 rfl rfl rfl rfl (fun h hs => ⟨Ent.frame (Up.rd _ _ _ _) (fun h hs => (hF h hs).1) h hs, Ent.frame (Up.rd _ _ _ _) (fun h hs => (hF h hs).2) h hs⟩) rfl ?_
        rintro _ _ ⟨rfl, rfl⟩
        refine ⟨rfl, rfl, ?_⟩
        refine OL.q (Y.pickT rfl g1_19 rfl) rfl ?_
        refine OL.q (Y.assign rfl) rfl ?_
        refine OL.nil ?_
        refine EX.seq ?_
        refine CW.ret ?_
        exact EX.fin1 [] rfl rfl rfl ⟨congrArg Value.bool (by unfold sameT; first | contradiction | (simp [*]; done)), rfl⟩
      · have ng1_19 := g1_19
        repeat (first | replace ng1_19 := yes ng1_19 | replace ng1_19 := no ng1_19 | replace ng1_19 := nyes ng1_19 | replace ng1_19 := nno ng1_19)
        refine OL.no g1_19 rfl rfl rfl ?_
        refine OL.no g1_19 rfl rfl rfl ?_
        refine OL.no g1_19 rfl rfl rfl ?_
        refine OL.no g1_19 rfl rfl rfl ?_
        refine OL.no g1_19 rfl rfl rfl ?_
        refine OL.q (Y.pickF rfl g1_19 rfl) rfl ?_
        refine OL.q (Y.assign rfl) rfl ?_
        refine OL.nil ?_
        refine EX.seq ?_
        refine CW.ret ?_
        exact EX.fin1 [] rfl rfl rfl ⟨congrArg Value.bool (by unfold sameT; first | contradiction | (simp [*]; done)), rfl⟩
    · have ng1_12 := g1_12
      repeat (first | replace ng1_12 := yes ng1_12 | replace ng1_12 := no ng1_12 | replace ng1_12 := nyes ng1_12 | replace ng1_12 := nno ng1_12)
      refine OL.no g1_12 rfl rfl rfl ?_
      refine OL.no g1_12 rfl rfl rfl ?_
      refine OL.no g1_12 rfl rfl rfl ?_
      refine OL.no g1_12 rfl rfl rfl ?_
      refine OL.no g1_12 rfl rfl rfl ?_
      refine OL.q (Y.pickF rfl g1_12 rfl) rfl ?_
      refine OL.q (Y.move rfl) rfl ?_
      refine OL.guard (s := 24) rfl (fun g1_19 => ?_) (fun g1_19 => ?_)
      · have ng1_19 := g1_19
        repeat (first | replace ng1_19 := yes ng1_19 | replace ng1_19 := no ng1_19 | replace ng1_19 := nyes ng1_19 | replace ng1_19 := nno ng1_19)
        refine OL.on g1_19 rfl rfl ?_
        refine OL.q (Y.field L30_2 rfl) rfl ?_
        refine OL.on g1_19 rfl rfl ?_
        refine OL.q (Y.load T28 rfl (Ent.at 0 rfl (Up.cellIs _ _ _) (blk_cell rfl))) rfl ?_
        refine OL.on g1_19 rfl rfl ?_
        refine OL.q (Y.field L30_2 rfl) rfl ?_
        refine OL.on g1_19 rfl rfl ?_
        refine OL.q (Y.load T28 rfl (Ent.at 1 rfl (Up.cellIs _ _ _) (blk_cell rfl))) rfl ?_
        refine OL.on g1_19 rfl rfl ?_
        refine OL.call [] (sameInts_any x.a y.a x.n x.c y.n y.c x.kids y.kids hx hy hn) Tryd.call26 rfl rfl rfl rfl (fun h hs => ⟨Ent.frame (Up.rd _ _ _ _) (fun h hs => (hF h hs).1) h hs, Ent.frame (Up.rd _ _ _ _) (fun h hs => (hF h hs).2) h hs⟩) rfl ?_
        rintro _ _ ⟨rfl, rfl⟩
        refine ⟨rfl, rfl, ?_⟩
        refine OL.q (Y.pickT rfl g1_19 rfl) rfl ?_
        refine OL.q (Y.assign rfl) rfl ?_
        refine OL.nil ?_
        refine EX.seq ?_
        refine CW.ret ?_
        exact EX.fin1 [] rfl rfl rfl ⟨congrArg Value.bool (by unfold sameT; first | contradiction | (simp [*]; done)), rfl⟩
      · have ng1_19 := g1_19
        repeat (first | replace ng1_19 := yes ng1_19 | replace ng1_19 := no ng1_19 | replace ng1_19 := nyes ng1_19 | replace ng1_19 := nno ng1_19)
        refine OL.no g1_19 rfl rfl rfl ?_
        refine OL.no g1_19 rfl rfl rfl ?_
        refine OL.no g1_19 rfl rfl rfl ?_
        refine OL.no g1_19 rfl rfl rfl ?_
        refine OL.no g1_19 rfl rfl rfl ?_
        refine OL.q (Y.pickF rfl g1_19 rfl) rfl ?_
        refine OL.q (Y.assign rfl) rfl ?_
        refine OL.nil ?_
        refine EX.seq ?_
        refine CW.ret ?_
        exact EX.fin1 [] rfl rfl rfl ⟨congrArg Value.bool (by unfold sameT; first | contradiction | (simp [*]; done)), rfl⟩
end Go.Proofs.YtmlnnepgigieaaaDoor
