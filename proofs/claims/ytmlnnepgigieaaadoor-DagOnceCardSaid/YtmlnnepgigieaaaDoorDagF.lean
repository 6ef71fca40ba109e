/- Functions that are added to an arena; what is told of a term's place. -/
import Derived.Test.YtmlnnepgigieaaaDoorDagE
namespace Go.Proofs.YtmlnnepgigieaaaDoor
open Go.Sx

theorem C28 : TyC Tryd.prog 28 1 [.slice none 0 0] := T28.c rfl
theorem C55 : TyC Tryd.prog 55 1 [.slice none 0 0] := T55.c rfl
theorem L38_2 : Fld Tryd.prog 38 2 2 := ⟨⟨_, Tryd.underlying38, _, rfl, rfl, 1, by decide, Tryd.sizeOf3⟩⟩
theorem E38 : Elt Tryd.prog 38 3 48 [.string ⟨#[]⟩, .slice none 0 0, .int .i64 0] := ⟨⟨Tryd.t38, by kernel_rfl, rfl, rfl, _, rfl, rfl⟩, rfl, by decide⟩

theorem of_any (t : Nat) (S : DagS) (v : DagV) (M : PH) (hS : DagOk M S v) (k : Int) :
    FS Tryd.prog 33 [.pointer (some ⟨t, 0, none⟩), .int .i64 k] (fun h => sl (dagR t S v M) h) [] (fun r H => r = .int .i64 (if bad v.tn k then -1 else ofAt S k) ∧ H = []) := by
  refine FS.intro (N := 16) Tryd.func33 rfl rfl rfl (fun F w0 hF => ?_)
  refine CW.seq ?_
  refine CW.region ?_
  refine OL.q (Y.assign rfl) rfl ?_
  refine OL.nil ?_
  refine EX.seq ?_
  refine CW.seq ?_
  refine CW.seq ?_
  refine CW.region ?_
  refine OL.q (Y.move rfl) rfl ?_
  refine OL.q (Y.move rfl) rfl ?_
  refine OL.call [] (has_any t S v M k) Tryd.call68 rfl rfl rfl rfl (Ent.frame (Up.sl _) hF) rfl ?_
  rintro _ _ ⟨rfl, rfl⟩
  refine ⟨rfl, rfl, ?_⟩
  refine OL.q (Y.not rfl) rfl ?_
  refine OL.nil ?_
  refine EX.seq ?_
  refine CW.cond rfl (fun h0 => ?_) (fun h0 => ?_)
  · repeat (first | replace h0 := yes h0 | replace h0 := no h0 | replace h0 := nyes h0 | replace h0 := nno h0)
    have hb : bad v.tn k = true := h0
    refine CW.seq ?_
    refine CW.region ?_
    refine OL.q (Y.assign rfl) rfl ?_
    refine OL.nil ?_
    refine EX.seq ?_
    refine CW.ret ?_
    refine EX.retT ?_
    exact EX.fin1 [] rfl rfl rfl ⟨by rw [hb]; rfl, rfl⟩
  · repeat (first | replace h0 := yes h0 | replace h0 := no h0 | replace h0 := nyes h0 | replace h0 := nno h0)
    have hb : bad v.tn k = false := h0
    obtain ⟨m, rfl, hml⟩ := bad_nat hb
    obtain ⟨z, hz⟩ : ∃ z, S.of[m]? = some z := ⟨_, List.getElem?_eq_getElem (by rw [hS.on]; exact hml)⟩
    have hov := hS.onv
    refine CW.skip ?_
    refine EX.seq ?_
    refine CW.seq ?_
    refine CW.region ?_
    refine OL.q (Y.move rfl) rfl ?_
    refine OL.q (Y.nilCheck rfl) rfl ?_
    refine OL.q (Y.field L97_5 rfl) rfl ?_
    refine OL.q (Y.load T28 rfl (Ent.via hF (Up.cellIs _ _ _) (Ent.at 0 rfl (Up.cellIs _ _ _) (blk_cell rfl)))) rfl ?_
    refine OL.q (Y.move rfl) rfl ?_
    refine OL.q (Y.index (k := m) Tryd.underlying28 C3 rfl rfl (Ent.via hF (Up.rd _ _ _ _) (Ent.at 5 rfl (Up.rd _ _ _ _) row_rd)) rfl (by omega)) rfl ?_
    refine OL.q (Y.load T3 rfl (cellsIs_at0 (rd_at (Ent.via hF (Up.rd _ _ _ _) (Ent.at 5 rfl (Up.rd _ _ _ _) row_rd)) (mget intCells hz)) rfl)) rfl ?_
    refine OL.q (Y.assign rfl) rfl ?_
    refine OL.nil ?_
    refine EX.seq ?_
    refine CW.ret ?_
    exact EX.fin1 [] rfl rfl rfl ⟨by rw [hb, ofAt_is hz]; rfl, rfl⟩

theorem constant_any (t : Nat) (S : DagS) (v : DagV) (M : PH) (hS : DagOk M S v) (k : Int) :
    FS Tryd.prog 34 [.pointer (some ⟨t, 0, none⟩), .int .i64 k] (fun h => sl (dagR t S v M) h) [] (fun r H => r = .bool (!bad v.tn k && consAt S k) ∧ H = []) := by
  refine FS.intro (N := 17) Tryd.func34 rfl rfl rfl (fun F w0 hF => ?_)
  refine CW.seq ?_
  refine CW.region ?_
  refine OL.q (Y.assign rfl) rfl ?_
  refine OL.nil ?_
  refine EX.seq ?_
  refine CW.seq ?_
  refine CW.region ?_
  refine OL.q (Y.move rfl) rfl ?_
  refine OL.q (Y.move rfl) rfl ?_
  refine OL.call [] (has_any t S v M k) Tryd.call68 rfl rfl rfl rfl (Ent.frame (Up.sl _) hF) rfl ?_
  rintro _ _ ⟨rfl, rfl⟩
  refine ⟨rfl, rfl, ?_⟩
  refine OL.q (Y.move rfl) rfl ?_
  refine OL.guard (s := 8) rfl (fun g1_3 => ?_) (fun g1_3 => ?_)
  · have ng1_3 := g1_3
    repeat (first | replace ng1_3 := yes ng1_3 | replace ng1_3 := no ng1_3 | replace ng1_3 := nyes ng1_3 | replace ng1_3 := nno ng1_3)
    have hb : bad v.tn k = false := by simpa using g1_3
    obtain ⟨m, rfl, hml⟩ := bad_nat hb
    obtain ⟨b, hz⟩ : ∃ z, S.cons[m]? = some z := ⟨_, List.getElem?_eq_getElem (by rw [hS.cn]; exact hml)⟩
    have hcv := hS.cnv
    have hbc : consAt S m = b := getD_at hz
    refine OL.on g1_3 rfl rfl ?_
    refine OL.q (Y.move rfl) rfl ?_
    refine OL.on g1_3 rfl rfl ?_
    refine OL.q (Y.nilCheck rfl) rfl ?_
    refine OL.on g1_3 rfl rfl ?_
    refine OL.q (Y.field L97_6 rfl) rfl ?_
    refine OL.on g1_3 rfl rfl ?_
    refine OL.q (Y.load T95 rfl (Ent.via hF (Up.cellIs _ _ _) (Ent.at 0 rfl (Up.cellIs _ _ _) (blk_cell rfl)))) rfl ?_
    refine OL.on g1_3 rfl rfl ?_
    refine OL.q (Y.move rfl) rfl ?_
    refine OL.on g1_3 rfl rfl ?_
    refine OL.q (Y.index (k := m) Tryd.underlying95 C4 rfl rfl (Ent.via hF (Up.rd _ _ _ _) (Ent.at 6 rfl (Up.rd _ _ _ _) row_rd)) rfl (by omega)) rfl ?_
    refine OL.on g1_3 rfl rfl ?_
    refine OL.q (Y.load T4 rfl (cellsIs_at0 (rd_at (Ent.via hF (Up.rd _ _ _ _) (Ent.at 6 rfl (Up.rd _ _ _ _) row_rd)) (mget boolCells hz)) rfl)) rfl ?_
    refine OL.q (Y.pickT rfl g1_3 rfl) rfl ?_
    refine OL.q (Y.assign rfl) rfl ?_
    refine OL.nil ?_
    refine EX.seq ?_
    refine CW.ret ?_
    exact EX.fin1 [] rfl rfl rfl ⟨by rw [hb, hbc]; rfl, rfl⟩
  · have ng1_3 := g1_3
    repeat (first | replace ng1_3 := yes ng1_3 | replace ng1_3 := no ng1_3 | replace ng1_3 := nyes ng1_3 | replace ng1_3 := nno ng1_3)
    have hb : bad v.tn k = true := by simpa using g1_3
    refine OL.no g1_3 rfl rfl rfl ?_
    refine OL.no g1_3 rfl rfl rfl ?_
    refine OL.no g1_3 rfl rfl rfl ?_
    refine OL.no g1_3 rfl rfl rfl ?_
    refine OL.no g1_3 rfl rfl rfl ?_
    refine OL.no g1_3 rfl rfl rfl ?_
    refine OL.no g1_3 rfl rfl rfl ?_
    refine OL.q (Y.pickF rfl g1_3 rfl) rfl ?_
    refine OL.q (Y.assign rfl) rfl ?_
    refine OL.nil ?_
    refine EX.seq ?_
    refine CW.ret ?_
    exact EX.fin1 [] rfl rfl rfl ⟨by rw [hb]; rfl, rfl⟩


def funPut (S : DagS) (f : FunC) : DagS := { S with funs := S.funs ++ [f] }
def funV (v : DagV) (fa : Option Addr) (fc : Nat) : DagV := { v with fa := fa, fn := v.fn + 1, fc := fc }


theorem fun_bad (t : Nat) (S : DagS) (v : DagV) (M : PH) (name : ByteArray) (a : Option Addr) (n c : Nat) (l : List Int) (res : Int) (hl : l.length = n) (hn : n ≤ 1000000) (hbad : (l.any (bad v.sn) || bad v.sn res) = true) :
    FS Tryd.prog 17 [.pointer (some ⟨t, 0, none⟩), funVal ⟨name, a, n, c, l, res⟩] (rd a n 1 (l.map intCells)) [blk t [.int .i64 S.most, .slice v.sa v.sn v.sc, .map (some v.m), .slice v.fa v.fn v.fc, .slice v.ta v.tn v.tc, .slice v.oa v.on v.oc, .slice v.ca v.cn v.cc, .slice v.ba v.bn v.bc] 97, row v.sa v.sn v.sc 57 2 (S.sorts.map sortCells), mapc Value.string v.m (sortPlaces 0 S.sorts), row v.fa v.fn v.fc 38 3 (S.funs.map funCells), row v.ta v.tn v.tc 30 4 (S.terms.map termCells), row v.oa v.on v.oc 3 1 (S.of.map intCells), row v.ca v.cn v.cc 4 1 (S.cons.map boolCells), row v.ba v.bn v.bc 28 1 (S.bucks.map buckCells), star (S.bucks.map buckRow), imm M] (fun r H => r = .tuple #[.int .i64 0, .int .i64 2] ∧ H = dagR t S v M) := by
  refine FS.intro (N := 39) Tryd.func17 rfl rfl rfl (fun F w0 hF => ?_)
  refine CW.seq ?_
  refine CW.region ?_
  refine OL.box rfl rfl rfl (fun b3 => ⟨rfl, rfl, ?_⟩)
  refine OL.q (Y.assign rfl) rfl ?_
  refine OL.q (Y.assign rfl) rfl ?_
  refine OL.nil ?_
  refine EX.seq ?_
  refine CW.seq ?_
  refine CW.seq ?_
  refine CW.region ?_
  refine OL.q (Y.move rfl) rfl ?_
  refine OL.q (Y.field L38_1 rfl) rfl ?_
  refine OL.q (Y.load T28 rfl (Ent.at 10 rfl (Up.cellIs _ _ _) (blk_cell rfl))) rfl ?_
  refine OL.call [] (areSorts_any t S v M a n c l hl (by omega)) Tryd.call53 rfl rfl rfl rfl (Ent.and (Ent.star [0, 1, 2, 3, 4, 5, 6, 7, 8, 9] rfl rfl) (Ent.frame (Up.rd _ _ _ _) hF)) rfl ?_
  rintro _ _ ⟨rfl, rfl⟩
  refine ⟨rfl, rfl, ?_⟩
  refine OL.q (Y.not rfl) rfl ?_
  refine OL.q (Y.move rfl) rfl ?_
  refine OL.guard (s := 11) rfl (fun g1_5 => ?_) (fun g1_5 => ?_)
  · have ng1_5 := g1_5
    repeat (first | replace ng1_5 := yes ng1_5 | replace ng1_5 := no ng1_5 | replace ng1_5 := nyes ng1_5 | replace ng1_5 := nno ng1_5)
    refine OL.no g1_5 rfl rfl rfl ?_
    refine OL.no g1_5 rfl rfl rfl ?_
    refine OL.no g1_5 rfl rfl rfl ?_
    refine OL.no g1_5 rfl rfl rfl ?_
    refine OL.no g1_5 rfl rfl rfl ?_
    refine OL.no g1_5 rfl rfl rfl ?_
    refine OL.q (Y.pickT rfl g1_5 rfl) rfl ?_
    refine OL.nil ?_
    refine EX.seq ?_
    refine CW.cond rfl (fun h0 => ?_) (fun h0 => ?_)
    rotate_left
    · repeat (first | replace h0 := yes h0 | replace h0 := no h0 | replace h0 := nyes h0 | replace h0 := nno h0)
      exfalso
      cases h0
    repeat (first | replace h0 := yes h0 | replace h0 := no h0 | replace h0 := nyes h0 | replace h0 := nno h0)
    refine CW.seq ?_
    refine CW.region ?_
    refine OL.q (Y.assign rfl) rfl ?_
    refine OL.q (Y.assign rfl) rfl ?_
    refine OL.nil ?_
    refine EX.seq ?_
    refine CW.ret ?_
    refine EX.retT ?_
    exact EX.fin2 [0, 1, 2, 3, 4, 5, 6, 7, 8, 9] rfl rfl rfl rfl ⟨rfl, rfl⟩
  · have ng1_5 := g1_5
    repeat (first | replace ng1_5 := yes ng1_5 | replace ng1_5 := no ng1_5 | replace ng1_5 := nyes ng1_5 | replace ng1_5 := nno ng1_5)
    refine OL.on g1_5 rfl rfl ?_
    refine OL.q (Y.move rfl) rfl ?_
    refine OL.on g1_5 rfl rfl ?_
    refine OL.q (Y.field L38_2 rfl) rfl ?_
    refine OL.on g1_5 rfl rfl ?_
    refine OL.q (Y.load T3 rfl (Ent.at 10 rfl (Up.cellIs _ _ _) (blk_cell rfl))) rfl ?_
    refine OL.on g1_5 rfl rfl ?_
    refine OL.buildSlice ([res].map intCells) Tryd.underlying28 C3 (by decide) rfl (by decide) rfl rfl rfl (fun b15 => ⟨rfl, rfl, ?_⟩)
    refine OL.on g1_5 rfl rfl ?_
    refine OL.call [] (areSorts_any t S v M (some ⟨b15, 0, none⟩) 1 1 [res] rfl (by omega)) Tryd.call53 rfl rfl rfl rfl (Ent.and (Ent.star [0, 1, 2, 3, 4, 5, 6, 7, 8, 9] rfl rfl) (Ent.at 11 rfl (Up.rd _ _ _ _) row_rd)) rfl ?_
    rintro _ _ ⟨rfl, rfl⟩
    refine ⟨rfl, rfl, ?_⟩
    refine OL.on g1_5 rfl rfl ?_
    refine OL.q (Y.not rfl) rfl ?_
    refine OL.q (Y.pickF rfl g1_5 rfl) rfl ?_
    refine OL.nil ?_
    refine EX.seq ?_
    refine CW.cond rfl (fun h0 => ?_) (fun h0 => ?_)
    rotate_left
    · repeat (first | replace h0 := yes h0 | replace h0 := no h0 | replace h0 := nyes h0 | replace h0 := nno h0)
      exfalso
      rw [ng1_5] at hbad
      simp at hbad h0
      rw [hbad] at h0; cases h0
    repeat (first | replace h0 := yes h0 | replace h0 := no h0 | replace h0 := nyes h0 | replace h0 := nno h0)
    refine CW.seq ?_
    refine CW.region ?_
    refine OL.q (Y.assign rfl) rfl ?_
    refine OL.q (Y.assign rfl) rfl ?_
    refine OL.nil ?_
    refine EX.seq ?_
    refine CW.ret ?_
    refine EX.retT ?_
    exact EX.fin2 [0, 1, 2, 3, 4, 5, 6, 7, 8, 9] rfl rfl rfl rfl ⟨rfl, rfl⟩

theorem fun_new (t : Nat) (S : DagS) (v : DagV) (M : PH) (name : ByteArray) (a : Option Addr) (n c : Nat) (l : List Int) (res : Int) (hl : l.length = n) (hn : n ≤ 1000000) (hbad : (l.any (bad v.sn) || bad v.sn res) = false) (hfn : v.fn ≤ 1000000) :
    FS Tryd.prog 17 [.pointer (some ⟨t, 0, none⟩), funVal ⟨name, a, n, c, l, res⟩] (rd a n 1 (l.map intCells)) [blk t [.int .i64 S.most, .slice v.sa v.sn v.sc, .map (some v.m), .slice v.fa v.fn v.fc, .slice v.ta v.tn v.tc, .slice v.oa v.on v.oc, .slice v.ca v.cn v.cc, .slice v.ba v.bn v.bc] 97, row v.sa v.sn v.sc 57 2 (S.sorts.map sortCells), mapc Value.string v.m (sortPlaces 0 S.sorts), row v.fa v.fn v.fc 38 3 (S.funs.map funCells), row v.ta v.tn v.tc 30 4 (S.terms.map termCells), row v.oa v.on v.oc 3 1 (S.of.map intCells), row v.ca v.cn v.cc 4 1 (S.cons.map boolCells), row v.ba v.bn v.bc 28 1 (S.bucks.map buckCells), star (S.bucks.map buckRow), imm M] (fun r H => ∃ a2 c2 fa fc M2, le M M2 ∧ rowIn M2 a2 n c2 l ∧ r = .tuple #[.int .i64 v.fn, .int .i64 0] ∧ H = dagR t (funPut S ⟨name, a2, n, c2, l, res⟩) (funV v fa fc) M2) := by
  refine FS.intro (N := 39) Tryd.func17 rfl rfl rfl (fun F w0 hF => ?_)
  obtain ⟨hb1, hb2⟩ : l.any (bad v.sn) = false ∧ bad v.sn res = false := by simpa using hbad
  refine CW.seq ?_
  refine CW.region ?_
  refine OL.box rfl rfl rfl (fun b3 => ⟨rfl, rfl, ?_⟩)
  refine OL.q (Y.assign rfl) rfl ?_
  refine OL.q (Y.assign rfl) rfl ?_
  refine OL.nil ?_
  refine EX.seq ?_
  refine CW.seq ?_
  refine CW.seq ?_
  refine CW.region ?_
  refine OL.q (Y.move rfl) rfl ?_
  refine OL.q (Y.field L38_1 rfl) rfl ?_
  refine OL.q (Y.load T28 rfl (Ent.at 10 rfl (Up.cellIs _ _ _) (blk_cell rfl))) rfl ?_
  refine OL.call [] (areSorts_any t S v M a n c l hl (by omega)) Tryd.call53 rfl rfl rfl rfl (Ent.and (Ent.star [0, 1, 2, 3, 4, 5, 6, 7, 8, 9] rfl rfl) (Ent.frame (Up.rd _ _ _ _) hF)) rfl ?_
  rintro _ _ ⟨rfl, rfl⟩
  refine ⟨rfl, rfl, ?_⟩
  refine OL.q (Y.not rfl) rfl ?_
  refine OL.q (Y.move rfl) rfl ?_
  refine OL.guard (s := 11) rfl (fun g1_5 => ?_) (fun g1_5 => ?_)
  · have ng1_5 := g1_5
    repeat (first | replace ng1_5 := yes ng1_5 | replace ng1_5 := no ng1_5 | replace ng1_5 := nyes ng1_5 | replace ng1_5 := nno ng1_5)
    exfalso
    rw [hb1] at g1_5; cases g1_5
  · have ng1_5 := g1_5
    repeat (first | replace ng1_5 := yes ng1_5 | replace ng1_5 := no ng1_5 | replace ng1_5 := nyes ng1_5 | replace ng1_5 := nno ng1_5)
    refine OL.on g1_5 rfl rfl ?_
    refine OL.q (Y.move rfl) rfl ?_
    refine OL.on g1_5 rfl rfl ?_
    refine OL.q (Y.field L38_2 rfl) rfl ?_
    refine OL.on g1_5 rfl rfl ?_
    refine OL.q (Y.load T3 rfl (Ent.at 10 rfl (Up.cellIs _ _ _) (blk_cell rfl))) rfl ?_
    refine OL.on g1_5 rfl rfl ?_
    refine OL.buildSlice ([res].map intCells) Tryd.underlying28 C3 (by decide) rfl (by decide) rfl rfl rfl (fun b15 => ⟨rfl, rfl, ?_⟩)
    refine OL.on g1_5 rfl rfl ?_
    refine OL.call [] (areSorts_any t S v M (some ⟨b15, 0, none⟩) 1 1 [res] rfl (by omega)) Tryd.call53 rfl rfl rfl rfl (Ent.and (Ent.star [0, 1, 2, 3, 4, 5, 6, 7, 8, 9] rfl rfl) (Ent.at 11 rfl (Up.rd _ _ _ _) row_rd)) rfl ?_
    rintro _ _ ⟨rfl, rfl⟩
    refine ⟨rfl, rfl, ?_⟩
    refine OL.on g1_5 rfl rfl ?_
    refine OL.q (Y.not rfl) rfl ?_
    refine OL.q (Y.pickF rfl g1_5 rfl) rfl ?_
    refine OL.nil ?_
    refine EX.seq ?_
    refine CW.cond rfl (fun h0 => ?_) (fun h0 => ?_)
    · repeat (first | replace h0 := yes h0 | replace h0 := no h0 | replace h0 := nyes h0 | replace h0 := nno h0)
      exfalso
      simp [hb2] at h0
    repeat (first | replace h0 := yes h0 | replace h0 := no h0 | replace h0 := nyes h0 | replace h0 := nno h0)
    refine CW.skip ?_
    refine EX.seq ?_
    refine CW.seq ?_
    refine CW.region ?_
    refine OL.q (Y.field L38_1 rfl) rfl ?_
    refine OL.q (Y.load T28 rfl (Ent.at 10 rfl (Up.cellIs _ _ _) (blk_cell rfl))) rfl ?_
    refine OL.call [9] (copied_imm M a n c l hl (by omega)) Tryd.call55 rfl rfl rfl rfl (Ent.frame (Up.rd _ _ _ _) hF) rfl ?_
    rintro _ _ ⟨a2, c2, M2, hle, hr2, rfl, rfl⟩
    refine ⟨rfl, rfl, ?_⟩
    refine OL.q (Y.field L38_1 rfl) rfl ?_
    refine OL.store 10 rfl C28 rfl rfl rfl rfl rfl ⟨rfl, rfl, ?_⟩
    refine OL.nil ?_
    refine EX.seq ?_
    refine CW.seq ?_
    refine CW.drawn [(true, 0), (true, 1), (true, 2), (true, 3), (true, 4), (true, 5), (false, 6), (false, 7)] [8, 9, 10] [0, 10] mixed (by kernel_rfl) (by repeat (first | exact PanicOk.body | refine PanicOk.then ?_ | refine PanicOk.block ?_)) (by kernel_rfl) rfl rfl rfl rfl ?_
    refine OL.qt (Y.move rfl) rfl ?_
    refine OL.qt (Y.move rfl) rfl ?_
    refine OL.qt (Y.nilCheck rfl) rfl ?_
    refine OL.qt (Y.field L97_3 rfl) rfl ?_
    refine OL.qt (Y.load T55 rfl (Ent.at 0 rfl (Up.cellIs _ _ _) (blk_cell rfl))) rfl ?_
    refine OL.qt (Y.loadN S38 rfl rfl (Ent.at 1 rfl (Up.cellsIs _ _ _) blk_cells)) rfl ?_
    refine OL.buildSlice ([funCells ⟨name, a2, n, c2, l, res⟩]) Tryd.underlying55 C38 (by decide) rfl (by decide) rfl rfl rfl (fun b29 => ⟨rfl, rfl, ?_⟩)
    refine OL.append [funCells ⟨name, a2, n, c2, l, res⟩] 3 rfl Tryd.underlying55 E38 rfl rfl (Ent.at 12 rfl (Up.rd _ _ _ _) row_rd) rfl (by omega) (by omega) rfl (fun a30 c30 => ⟨rfl, rfl, ?_⟩)
    refine OL.nil ?_
    refine EX.tail ?_
    refine OL.q (Y.nilCheck rfl) rfl ?_
    refine OL.q (Y.field L97_3 rfl) rfl ?_
    refine OL.store 0 rfl C55 rfl rfl rfl rfl rfl ⟨rfl, rfl, ?_⟩
    refine OL.nil ?_
    refine EX.seq ?_
    refine CW.seq ?_
    refine CW.region ?_
    refine OL.q (Y.move rfl) rfl ?_
    refine OL.q (Y.nilCheck rfl) rfl ?_
    refine OL.q (Y.field L97_3 rfl) rfl ?_
    refine OL.q (Y.load T55 rfl (Ent.at 0 rfl (Up.cellIs _ _ _) (blk_cell rfl))) rfl ?_
    refine OL.q (Y.lenSl Tryd.underlying55 rfl) rfl ?_
    refine OL.q (Y.sub rfl rfl (by omega)) rfl ?_
    refine OL.q (Y.assign rfl) rfl ?_
    refine OL.q (Y.assign rfl) rfl ?_
    refine OL.nil ?_
    refine EX.seq ?_
    refine CW.ret ?_
    refine EX.fin2 [0, 1, 2, 3, 4, 5, 6, 7, 8, 9] rfl rfl rfl rfl ⟨a2, c2, a30, c30, M2, hle, hr2, ?_, ?_⟩
    · rw [show ((v.fn + 1 : Nat) : Int) - 1 = v.fn by omega]
    · unfold dagR dagL funPut funV
      rw [List.map_append]
      rfl
end Go.Proofs.YtmlnnepgigieaaaDoor
