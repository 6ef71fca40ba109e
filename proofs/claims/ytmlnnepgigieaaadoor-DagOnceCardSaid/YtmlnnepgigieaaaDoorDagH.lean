/- A new term in an arena. -/
import Derived.Test.YtmlnnepgigieaaaDoorDagG
namespace Go.Proofs.YtmlnnepgigieaaaDoor
open Go.Sx

theorem T47 : Ty1 Tryd.prog 47 (.slice none 0 0) := ⟨Tryd.isAgg47, Tryd.sizeOf47, Tryd.zeroValue47⟩
theorem C30 : TyC Tryd.prog 30 4 [.int .i64 0, .int .i64 0, .slice none 0 0, .string ⟨#[]⟩] := S30.c
theorem C47 : TyC Tryd.prog 47 1 [.slice none 0 0] := T47.c rfl
theorem C60 : TyC Tryd.prog 60 1 [.slice none 0 0] := T60.c rfl
theorem C95 : TyC Tryd.prog 95 1 [.slice none 0 0] := T95.c rfl
theorem L97_7 : Fld Tryd.prog 97 7 7 := ⟨⟨_, Tryd.underlying97, _, rfl, rfl, 1, by decide, Tryd.sizeOf47⟩⟩
theorem E4 : Elt Tryd.prog 4 1 1 [.bool false] := ⟨⟨Tryd.t4, by kernel_rfl, rfl, rfl, _, rfl, rfl⟩, rfl, by decide⟩
theorem E28 : Elt Tryd.prog 28 1 24 [.slice none 0 0] := ⟨⟨Tryd.t28, by kernel_rfl, rfl, rfl, _, rfl, rfl⟩, rfl, by decide⟩
theorem E30 : Elt Tryd.prog 30 4 56 [.int .i64 0, .int .i64 0, .slice none 0 0, .string ⟨#[]⟩] := ⟨⟨Tryd.t30, by kernel_rfl, rfl, rfl, _, rfl, rfl⟩, rfl, by decide⟩


def newC (S : DagS) (x : TermC) : Bool := decide (x.op = 4) || (decide (x.op = 18) && decide (x.kids.length = 1) && consAt S (x.kids.getD 0 0))
def termPut (S : DagS) (x : TermC) (B : List BuckC) : DagS := { S with terms := S.terms ++ [x], of := S.of ++ [resE S x], cons := S.cons ++ [newC S x], bucks := B }
theorem tmod_hix {h : Int} {n : Nat} (hh : 0 ≤ h) : h.tmod (n : Int) = (hix h n : Nat) := by
  obtain ⟨k, rfl⟩ := Int.eq_ofNat_of_zero_le hh
  rfl
theorem wrap_nat {n : Nat} (hn : n ≤ 100000000) : IntKind.u64.wrap (n : Int) = n := by simp [IntKind.wrap, IntKind.signed, IntKind.bits]; omega
theorem bucketOf_len (n : Nat) (hs : List Int) (i : Nat) : (bucketOf n hs i).length ≤ hs.length := by
  unfold bucketOf
  rw [List.length_map]
  exact Nat.le_trans (List.length_filter_le _ _) (by simp)
theorem set_mid {B1 B2 : List BuckC} {b b' : BuckC} {xs : List Value} (h : xs = buckCells b') : ((B1 ++ b :: B2).map buckCells).set B1.length xs = (B1 ++ b' :: B2).map buckCells := by
  subst h
  rw [List.map_append, List.map_append, List.set_append_right _ _ (by simp)]
  simp
def nilB : BuckC := ⟨none, 0, 0, []⟩
theorem sl_nils (n : Nat) {l : List HP} {h : PH} (hs : sl l h) : sl (star ((List.replicate n nilB).map buckRow) :: l) h := by
  refine sl_star.2 ?_
  induction n with
  | zero => exact hs
  | succ n ih => exact sl_row_nil _ _ ih
theorem bucks_nil (n : Nat) : Bucks n [] (List.replicate n nilB) := ⟨by simp, fun i b hb => by
  have := List.eq_of_mem_replicate (mem_of hb)
  rw [this]; rfl⟩
structure TermV where
  ta : Option Addr
  tc : Nat
  oa : Option Addr
  oc : Nat
  ca : Option Addr
  cc : Nat
  ba : Option Addr
  bn : Nat
  bc : Nat
def termV (v : DagV) (q : TermV) : DagV := { v with ta := q.ta, tn := v.tn + 1, tc := q.tc, oa := q.oa, on := v.on + 1, oc := q.oc, ca := q.ca, cn := v.cn + 1, cc := q.cc, ba := q.ba, bn := q.bn, bc := q.bc }


set_option maxRecDepth 10000 in
set_option maxHeartbeats 4000000 in
theorem add_any (t : Nat) (S : DagS) (v : DagV) (M : PH) (hS : DagOk M S v) (x : TermC) (hx : x.Ok M) (hnr : Near S v x) (hB : Bucks v.bn (S.terms.map hashT) S.bucks) (hbn : 0 < v.bn ∧ v.bn ≤ 10000000) (htn : v.tn ≤ 1048576) (hT : ∀ y ∈ S.terms ++ [x], y.Ok M ∧ y.n ≤ 1000000 ∧ y.num.size ≤ 1000000) :
    FS Tryd.prog 62 [.pointer (some ⟨t, 0, none⟩), termVal x, .int .u64 (hashT x)] (nothing) [blk t [.int .i64 S.most, .slice v.sa v.sn v.sc, .map (some v.m), .slice v.fa v.fn v.fc, .slice (v.ta) (v.tn) (v.tc), .slice (v.oa) (v.on) (v.oc), .slice (v.ca) (v.cn) (v.cc), .slice (v.ba) (v.bn) (v.bc)] 97, row v.sa v.sn v.sc 57 2 (S.sorts.map sortCells), mapc Value.string v.m (sortPlaces 0 S.sorts), row v.fa v.fn v.fc 38 3 (S.funs.map funCells), row (v.ta) (v.tn) (v.tc) 30 4 (S.terms.map termCells), row (v.oa) (v.on) (v.oc) 3 1 (S.of.map intCells), row (v.ca) (v.cn) (v.cc) 4 1 (S.cons.map boolCells), row (v.ba) (v.bn) (v.bc) 28 1 ((S.bucks).map buckCells), star ((S.bucks).map buckRow), imm M] (fun r H => ∃ q B, r = .int .i64 v.tn ∧ Bucks q.bn ((S.terms ++ [x]).map hashT) B ∧ q.bn = (if v.tn + 1 ≤ v.bn then v.bn else 2 * v.bn) ∧ H = dagR t (termPut S x B) (termV v q) M) := by
  refine FS.intro (N := 157) Tryd.func62 rfl rfl rfl (fun F w0 hF => ?_)
  obtain ⟨hxr, hxc, hxl⟩ := id hx
  have hon := hS.onv
  have hcn := hS.cnv
  have hsm := hS.small
  have hh := hash_bd x
  refine CW.seq ?_
  refine CW.region ?_
  refine OL.box rfl rfl rfl (fun b4 => ⟨rfl, rfl, ?_⟩)
  refine OL.q (Y.assign rfl) rfl ?_
  refine OL.nil ?_
  refine EX.seq ?_
  refine CW.seq ?_
  refine CW.region ?_
  refine OL.q (Y.move rfl) rfl ?_
  refine OL.q (Y.nilCheck rfl) rfl ?_
  refine OL.q (Y.field L97_4 rfl) rfl ?_
  refine OL.q (Y.load T60 rfl (Ent.at 0 rfl (Up.cellIs _ _ _) (blk_cell rfl))) rfl ?_
  refine OL.q (Y.lenSl Tryd.underlying60 rfl) rfl ?_
  refine OL.q (Y.assign rfl) rfl ?_
  refine OL.nil ?_
  refine EX.seq ?_
  refine CW.seq ?_
  refine CW.drawn [(true, 0), (true, 1), (true, 2), (true, 3), (true, 4), (true, 5), (false, 6), (false, 7)] [8, 9, 10] [0, 10] mixed (by kernel_rfl) (by repeat (first | exact PanicOk.body | refine PanicOk.then ?_ | refine PanicOk.block ?_)) (by kernel_rfl) rfl rfl rfl rfl ?_
  refine OL.qt (Y.move rfl) rfl ?_
  refine OL.qt (Y.move rfl) rfl ?_
  refine OL.qt (Y.nilCheck rfl) rfl ?_
  refine OL.qt (Y.field L97_4 rfl) rfl ?_
  refine OL.qt (Y.load T60 rfl (Ent.at 0 rfl (Up.cellIs _ _ _) (blk_cell rfl))) rfl ?_
  refine OL.qt (Y.loadN S30 rfl rfl (Ent.at 1 rfl (Up.cellsIs _ _ _) blk_cells)) rfl ?_
  refine OL.buildSlice ([termCells x]) Tryd.underlying60 C30 (by decide) rfl (by decide) rfl rfl rfl (fun b23 => ⟨rfl, rfl, ?_⟩)
  refine OL.append [termCells x] 4 rfl Tryd.underlying60 E30 rfl rfl (Ent.at 11 rfl (Up.rd _ _ _ _) row_rd) rfl (by omega) (by omega) rfl (fun a24 c24 => ⟨rfl, rfl, ?_⟩)
  refine OL.nil ?_
  refine EX.tail ?_
  refine OL.q (Y.nilCheck rfl) rfl ?_
  refine OL.q (Y.field L97_4 rfl) rfl ?_
  refine OL.store 0 rfl C60 rfl rfl rfl rfl rfl ⟨rfl, rfl, ?_⟩
  refine OL.nil ?_
  refine EX.seq ?_
  refine CW.seq ?_
  rw [show S.terms.map termCells ++ [termCells x] = (S.terms ++ [x]).map termCells by simp]
  refine CW.drawn [(true, 0), (true, 1), (true, 2), (true, 3), (true, 4), (true, 5), (true, 6), (false, 7), (false, 8), (false, 9)] [10, 11, 12] [0, 10] mixed (by kernel_rfl) (by repeat (first | exact PanicOk.body | refine PanicOk.then ?_ | refine PanicOk.block ?_)) (by kernel_rfl) rfl rfl rfl rfl ?_
  refine OL.qt (Y.move rfl) rfl ?_
  refine OL.qt (Y.move rfl) rfl ?_
  refine OL.qt (Y.nilCheck rfl) rfl ?_
  refine OL.qt (Y.field L97_5 rfl) rfl ?_
  refine OL.qt (Y.load T28 rfl (Ent.at 0 rfl (Up.cellIs _ _ _) (blk_cell rfl))) rfl ?_
  refine OL.qt (Y.move rfl) rfl ?_
  refine OL.qt (Y.loadN S30 rfl rfl (Ent.at 1 rfl (Up.cellsIs _ _ _) blk_cells)) rfl ?_
  refine OL.call [] (result_gen t { S with terms := S.terms ++ [x] } { v with ta := a24, tn := v.tn + 1, tc := c24 } M x hx (fun h => by obtain ⟨m, hm, hml⟩ := bad_nat (hnr.fn h); exact ⟨m, _, hm, List.getElem?_eq_getElem (by rw [hS.fn]; exact hml), hml⟩) (fun h => by have hct := hnr.count; rw [h] at hct; have h3 := right_ite hct; obtain ⟨m, hm, hml⟩ := bad_nat (hnr.kids _ (List.getElem_mem (show 1 < x.kids.length by omega))); exact ⟨_, m, _, List.getElem?_eq_getElem (by omega), hm, List.getElem?_eq_getElem (by show m < S.of.length; rw [hS.on]; exact hml), by show m < v.on; omega, by omega⟩)) Tryd.call89 rfl rfl rfl rfl (Ent.star [0, 1, 2, 3, 4, 5, 6, 7, 8, 9] rfl rfl) rfl ?_
  rintro _ _ ⟨rfl, rfl⟩
  refine ⟨rfl, rfl, ?_⟩
  refine OL.buildSlice ([[.int .i64 (resE S x)]]) Tryd.underlying28 C3 (by decide) rfl (by decide) rfl rfl rfl (fun b35 => ⟨rfl, rfl, ?_⟩)
  refine OL.append [[.int .i64 (resE S x)]] 5 rfl Tryd.underlying28 E3 rfl rfl (Ent.at 12 rfl (Up.rd _ _ _ _) row_rd) rfl (by omega) (by omega) rfl (fun a36 c36 => ⟨rfl, rfl, ?_⟩)
  refine OL.nil ?_
  refine EX.tail ?_
  refine OL.q (Y.nilCheck rfl) rfl ?_
  refine OL.q (Y.field L97_5 rfl) rfl ?_
  refine OL.store 0 rfl C28 rfl rfl rfl rfl rfl ⟨rfl, rfl, ?_⟩
  refine OL.nil ?_
  refine EX.seq ?_
  generalize hbb : b4 = bb
  refine CW.cut (α := (Option Addr × Nat) × (Option Addr × Nat) × Option Addr × Nat) ⟨fun _ => True, fun _ => [(0, .pointer (some ⟨t, 0, none⟩)), (2, .int .u64 (hashT x)), (4, .pointer (some ⟨bb, 0, none⟩)), (7, .int .i64 v.tn)], fun q => [blk t [.int .i64 S.most, .slice v.sa v.sn v.sc, .map (some v.m), .slice v.fa v.fn v.fc, .slice (q.1.1) (v.tn + 1) (q.1.2), .slice (q.2.1.1) (v.on + 1) (q.2.1.2), .slice (q.2.2.1) (v.cn + 1) (q.2.2.2), .slice (v.ba) (v.bn) (v.bc)] 97, row v.sa v.sn v.sc 57 2 (S.sorts.map sortCells), mapc Value.string v.m (sortPlaces 0 S.sorts), row v.fa v.fn v.fc 38 3 (S.funs.map funCells), row (q.1.1) (v.tn + 1) (q.1.2) 30 4 ((S.terms ++ [x]).map termCells), row (q.2.1.1) (v.on + 1) (q.2.1.2) 3 1 (S.of.map intCells ++ [[.int .i64 (resE S x)]]), row (q.2.2.1) (v.cn + 1) (q.2.2.2) 4 1 (S.cons.map boolCells ++ [[.bool (newC S x)]]), row (v.ba) (v.bn) (v.bc) 28 1 ((S.bucks).map buckCells), star ((S.bucks).map buckRow), imm M, blk bb (termCells x) 30]⟩ ?_ ?_
  ·
    refine CW.drawn [(true, 0), (true, 1), (true, 2), (true, 3), (true, 4), (true, 5), (true, 6), (true, 7), (true, 8), (true, 9), (true, 10), (true, 11), (true, 12), (true, 13), (true, 14), (true, 15), (true, 16), (true, 17), (true, 18), (true, 19), (true, 20), (true, 21), (true, 22), (true, 23), (true, 24), (true, 25), (true, 26), (false, 27), (false, 28), (true, 29), (true, 30), (false, 31), (false, 32)] [33, 34, 35] [0, 9, 10] mixed (by kernel_rfl) (by repeat (first | exact PanicOk.body | refine PanicOk.then ?_ | refine PanicOk.block ?_)) (by kernel_rfl) rfl rfl rfl rfl ?_
    refine OL.qt (Y.move rfl) rfl ?_
    refine OL.qt (Y.move rfl) rfl ?_
    refine OL.qt (Y.nilCheck rfl) rfl ?_
    refine OL.qt (Y.field L97_6 rfl) rfl ?_
    refine OL.qt (Y.load T95 rfl (Ent.at 0 rfl (Up.cellIs _ _ _) (blk_cell rfl))) rfl ?_
    refine OL.qt (Y.field L30_0 rfl) rfl ?_
    refine OL.qt (Y.load T3 rfl (Ent.at 2 rfl (Up.cellIs _ _ _) (blk_cell rfl))) rfl ?_
    refine OL.qt (Y.eql rfl rfl) rfl ?_
    refine OL.qt (Y.move rfl) rfl ?_
    refine OL.guard (s := 47) rfl (fun g4_8 => ?_) (fun g4_8 => ?_)
    · have ng4_8 := g4_8
      repeat (first | replace ng4_8 := yes ng4_8 | replace ng4_8 := no ng4_8 | replace ng4_8 := nyes ng4_8 | replace ng4_8 := nno ng4_8)
      refine OL.tno g4_8 rfl rfl rfl ?_
      refine OL.tno g4_8 rfl rfl rfl ?_
      refine OL.tno g4_8 rfl rfl rfl ?_
      refine OL.tno g4_8 rfl rfl rfl ?_
      refine OL.tdead rfl rfl rfl ?_
      refine OL.tdead rfl rfl rfl ?_
      refine OL.tdead rfl rfl rfl ?_
      refine OL.tdead rfl rfl rfl ?_
      refine OL.tno g4_8 rfl rfl rfl ?_
      refine OL.tno g4_8 rfl rfl rfl ?_
      refine OL.tdead rfl rfl rfl ?_
      refine OL.tdead rfl rfl rfl ?_
      refine OL.tdead rfl rfl rfl ?_
      refine OL.tdead rfl rfl rfl ?_
      refine OL.tdead rfl rfl rfl ?_
      refine OL.tdead rfl rfl rfl ?_
      refine OL.tdead rfl rfl rfl ?_
      refine OL.tdead rfl rfl rfl ?_
      refine OL.dead rfl rfl rfl ?_
      refine OL.dead rfl rfl rfl ?_
      refine OL.tno g4_8 rfl rfl rfl ?_
      refine OL.qt (Y.pickT rfl g4_8 rfl) rfl ?_
      refine OL.buildSlice ([[.bool true]]) Tryd.underlying95 C4 (by decide) rfl (by decide) rfl rfl rfl (fun b70 => ⟨rfl, rfl, ?_⟩)
      refine OL.append [[.bool true]] 6 rfl Tryd.underlying95 E4 rfl rfl (Ent.at 13 rfl (Up.rd _ _ _ _) row_rd) rfl (by omega) (by omega) rfl (fun a71 c71 => ⟨rfl, rfl, ?_⟩)
      refine OL.nil ?_
      refine EX.tail ?_
      refine OL.q (Y.nilCheck rfl) rfl ?_
      refine OL.q (Y.field L97_6 rfl) rfl ?_
      refine OL.store 0 rfl C95 rfl rfl rfl rfl rfl ⟨rfl, rfl, ?_⟩
      refine OL.nil ?_
      have e9 : newC S x = true := by
        unfold newC
        rw [decide_eq_true ng4_8]; rfl
      exact EX.meet ((a24, c24), (a36, c36), (a71, c71)) [0, 1, 2, 3, 4, 5, 6, 7, 8, 9, 10] trivial ⟨rfl, rfl, rfl, rfl, trivial⟩ rfl (by show [_, _, _, _, _, _, _, _, _, _, _] = [_, _, _, _, _, _, _, _, _, _, _]; simp only []; rw [e9]; rfl)
    · have ng4_8 := g4_8
      repeat (first | replace ng4_8 := yes ng4_8 | replace ng4_8 := no ng4_8 | replace ng4_8 := nyes ng4_8 | replace ng4_8 := nno ng4_8)
      refine OL.ont g4_8 rfl rfl ?_
      refine OL.qt (Y.field L30_0 rfl) rfl ?_
      refine OL.ont g4_8 rfl rfl ?_
      refine OL.qt (Y.load T3 rfl (Ent.at 2 rfl (Up.cellIs _ _ _) (blk_cell rfl))) rfl ?_
      refine OL.ont g4_8 rfl rfl ?_
      refine OL.qt (Y.eql rfl rfl) rfl ?_
      refine OL.ont g4_8 rfl rfl ?_
      refine OL.qt (Y.move rfl) rfl ?_
      refine OL.guard (s := 51) rfl (fun g4_12 => ?_) (fun g4_12 => ?_)
      · have ng4_12 := g4_12
        repeat (first | replace ng4_12 := yes ng4_12 | replace ng4_12 := no ng4_12 | replace ng4_12 := nyes ng4_12 | replace ng4_12 := nno ng4_12)
        refine OL.ont g4_12 rfl rfl ?_
        refine OL.qt (Y.field L30_2 rfl) rfl ?_
        refine OL.ont g4_12 rfl rfl ?_
        refine OL.qt (Y.load T28 rfl (Ent.at 2 rfl (Up.cellIs _ _ _) (blk_cell rfl))) rfl ?_
        refine OL.ont g4_12 rfl rfl ?_
        refine OL.qt (Y.lenSl Tryd.underlying28 rfl) rfl ?_
        refine OL.ont g4_12 rfl rfl ?_
        refine OL.qt (Y.eql rfl rfl) rfl ?_
        refine OL.ont g4_8 rfl rfl ?_
        refine OL.qt (Y.pickT rfl g4_12 rfl) rfl ?_
        refine OL.ont g4_8 rfl rfl ?_
        refine OL.qt (Y.move rfl) rfl ?_
        refine OL.guard (s := 57) rfl (fun g4_18 => ?_) (fun g4_18 => ?_)
        · have ng4_18 := g4_18
          repeat (first | replace ng4_18 := yes ng4_18 | replace ng4_18 := no ng4_18 | replace ng4_18 := nyes ng4_18 | replace ng4_18 := nno ng4_18)
          obtain ⟨kd, hkd⟩ : ∃ p, x.kids[0]? = some p := ⟨_, List.getElem?_eq_getElem (by omega)⟩
          obtain ⟨m, hm, hml⟩ := bad_nat (hnr.kids kd (mem_of hkd))
          obtain ⟨cb, hcb⟩ : ∃ z, S.cons[m]? = some z := ⟨_, List.getElem?_eq_getElem (by rw [hS.cn]; exact hml)⟩
          have hcc : consAt S (x.kids.getD 0 0) = cb := by rw [getD_at hkd, hm]; exact getD_at hcb
          refine OL.ont g4_18 rfl rfl ?_
          refine OL.qt (Y.move rfl) rfl ?_
          refine OL.ont g4_18 rfl rfl ?_
          refine OL.qt (Y.nilCheck rfl) rfl ?_
          refine OL.ont g4_18 rfl rfl ?_
          refine OL.qt (Y.field L97_6 rfl) rfl ?_
          refine OL.ont g4_18 rfl rfl ?_
          refine OL.qt (Y.load T95 rfl (Ent.at 0 rfl (Up.cellIs _ _ _) (blk_cell rfl))) rfl ?_
          refine OL.ont g4_18 rfl rfl ?_
          refine OL.qt (Y.field L30_2 rfl) rfl ?_
          refine OL.ont g4_18 rfl rfl ?_
          refine OL.qt (Y.load T28 rfl (Ent.at 2 rfl (Up.cellIs _ _ _) (blk_cell rfl))) rfl ?_
          refine OL.ont g4_18 rfl rfl ?_
          refine OL.qt (Y.index (k := 0) Tryd.underlying28 C3 rfl rfl (Ent.at 1 rfl (Up.rd _ _ _ _) (imm_ent (Up.rd _ _ _ _) hxr)) (by omega) (by omega)) rfl ?_
          refine OL.ont g4_18 rfl rfl ?_
          refine OL.qt (Y.load T3 rfl (cellsIs_at0 (rd_at (Ent.at 1 rfl (Up.rd _ _ _ _) (imm_ent (Up.rd _ _ _ _) hxr)) (mget intCells hkd)) rfl)) rfl ?_
          refine OL.on g4_18 rfl rfl ?_
          refine OL.q (Y.index (k := m) Tryd.underlying95 C4 rfl rfl (Ent.at 6 rfl (Up.rd _ _ _ _) row_rd) hm (by omega)) rfl ?_
          refine OL.on g4_18 rfl rfl ?_
          refine OL.q (Y.load T4 rfl (cellsIs_at0 (rd_at (Ent.at 6 rfl (Up.rd _ _ _ _) row_rd) (mget boolCells hcb)) rfl)) rfl ?_
          refine OL.ont g4_8 rfl rfl ?_
          refine OL.qt (Y.pickT rfl g4_18 rfl) rfl ?_
          refine OL.qt (Y.pickF rfl g4_8 rfl) rfl ?_
          refine OL.buildSlice ([[.bool cb]]) Tryd.underlying95 C4 (by decide) rfl (by decide) rfl rfl rfl (fun b70 => ⟨rfl, rfl, ?_⟩)
          refine OL.append [[.bool cb]] 6 rfl Tryd.underlying95 E4 rfl rfl (Ent.at 13 rfl (Up.rd _ _ _ _) row_rd) rfl (by omega) (by omega) rfl (fun a71 c71 => ⟨rfl, rfl, ?_⟩)
          refine OL.nil ?_
          refine EX.tail ?_
          refine OL.q (Y.nilCheck rfl) rfl ?_
          refine OL.q (Y.field L97_6 rfl) rfl ?_
          refine OL.store 0 rfl C95 rfl rfl rfl rfl rfl ⟨rfl, rfl, ?_⟩
          refine OL.nil ?_
          have e9 : newC S x = cb := by
            unfold newC
            rw [decide_eq_false ng4_8, decide_eq_true ng4_12, decide_eq_true (show x.kids.length = 1 by omega), hcc]; rfl
          exact EX.meet ((a24, c24), (a36, c36), (a71, c71)) [0, 1, 2, 3, 4, 5, 6, 7, 8, 9, 10] trivial ⟨rfl, rfl, rfl, rfl, trivial⟩ rfl (by show [_, _, _, _, _, _, _, _, _, _, _] = [_, _, _, _, _, _, _, _, _, _, _]; simp only []; rw [e9]; rfl)
        · have ng4_18 := g4_18
          repeat (first | replace ng4_18 := yes ng4_18 | replace ng4_18 := no ng4_18 | replace ng4_18 := nyes ng4_18 | replace ng4_18 := nno ng4_18)
          refine OL.tno g4_18 rfl rfl rfl ?_
          refine OL.tno g4_18 rfl rfl rfl ?_
          refine OL.tno g4_18 rfl rfl rfl ?_
          refine OL.tno g4_18 rfl rfl rfl ?_
          refine OL.tno g4_18 rfl rfl rfl ?_
          refine OL.tno g4_18 rfl rfl rfl ?_
          refine OL.tno g4_18 rfl rfl rfl ?_
          refine OL.tno g4_18 rfl rfl rfl ?_
          refine OL.no g4_18 rfl rfl rfl ?_
          refine OL.no g4_18 rfl rfl rfl ?_
          refine OL.ont g4_8 rfl rfl ?_
          refine OL.qt (Y.pickF rfl g4_18 rfl) rfl ?_
          refine OL.qt (Y.pickF rfl g4_8 rfl) rfl ?_
          refine OL.buildSlice ([[.bool false]]) Tryd.underlying95 C4 (by decide) rfl (by decide) rfl rfl rfl (fun b70 => ⟨rfl, rfl, ?_⟩)
          refine OL.append [[.bool false]] 6 rfl Tryd.underlying95 E4 rfl rfl (Ent.at 13 rfl (Up.rd _ _ _ _) row_rd) rfl (by omega) (by omega) rfl (fun a71 c71 => ⟨rfl, rfl, ?_⟩)
          refine OL.nil ?_
          refine EX.tail ?_
          refine OL.q (Y.nilCheck rfl) rfl ?_
          refine OL.q (Y.field L97_6 rfl) rfl ?_
          refine OL.store 0 rfl C95 rfl rfl rfl rfl rfl ⟨rfl, rfl, ?_⟩
          refine OL.nil ?_
          have e9 : newC S x = false := by
            unfold newC
            first | (rw [decide_eq_false ng4_8, decide_eq_false ng4_12]; rfl) | (rw [decide_eq_false ng4_8, decide_eq_false (show ¬ x.kids.length = 1 by omega)]; simp)
          exact EX.meet ((a24, c24), (a36, c36), (a71, c71)) [0, 1, 2, 3, 4, 5, 6, 7, 8, 9, 10] trivial ⟨rfl, rfl, rfl, rfl, trivial⟩ rfl (by show [_, _, _, _, _, _, _, _, _, _, _] = [_, _, _, _, _, _, _, _, _, _, _]; simp only []; rw [e9]; rfl)
      · have ng4_12 := g4_12
        repeat (first | replace ng4_12 := yes ng4_12 | replace ng4_12 := no ng4_12 | replace ng4_12 := nyes ng4_12 | replace ng4_12 := nno ng4_12)
        refine OL.tno g4_12 rfl rfl rfl ?_
        refine OL.tno g4_12 rfl rfl rfl ?_
        refine OL.tno g4_12 rfl rfl rfl ?_
        refine OL.tno g4_12 rfl rfl rfl ?_
        refine OL.ont g4_8 rfl rfl ?_
        refine OL.qt (Y.pickF rfl g4_12 rfl) rfl ?_
        refine OL.ont g4_8 rfl rfl ?_
        refine OL.qt (Y.move rfl) rfl ?_
        refine OL.guard (s := 57) rfl (fun g4_18 => ?_) (fun g4_18 => ?_)
        · have ng4_18 := g4_18
          repeat (first | replace ng4_18 := yes ng4_18 | replace ng4_18 := no ng4_18 | replace ng4_18 := nyes ng4_18 | replace ng4_18 := nno ng4_18)
          exfalso
          first | omega | contradiction | exact absurd rfl ng4_18 | exact absurd ng4_18 (by simp) | exact absurd ng4_18 (by decide)
        · have ng4_18 := g4_18
          repeat (first | replace ng4_18 := yes ng4_18 | replace ng4_18 := no ng4_18 | replace ng4_18 := nyes ng4_18 | replace ng4_18 := nno ng4_18)
          refine OL.tno g4_18 rfl rfl rfl ?_
          refine OL.tno g4_18 rfl rfl rfl ?_
          refine OL.tno g4_18 rfl rfl rfl ?_
          refine OL.tno g4_18 rfl rfl rfl ?_
          refine OL.tno g4_18 rfl rfl rfl ?_
          refine OL.tno g4_18 rfl rfl rfl ?_
          refine OL.tno g4_18 rfl rfl rfl ?_
          refine OL.tno g4_18 rfl rfl rfl ?_
          refine OL.no g4_18 rfl rfl rfl ?_
          refine OL.no g4_18 rfl rfl rfl ?_
          refine OL.ont g4_8 rfl rfl ?_
          refine OL.qt (Y.pickF rfl g4_18 rfl) rfl ?_
          refine OL.qt (Y.pickF rfl g4_8 rfl) rfl ?_
          refine OL.buildSlice ([[.bool false]]) Tryd.underlying95 C4 (by decide) rfl (by decide) rfl rfl rfl (fun b70 => ⟨rfl, rfl, ?_⟩)
          refine OL.append [[.bool false]] 6 rfl Tryd.underlying95 E4 rfl rfl (Ent.at 13 rfl (Up.rd _ _ _ _) row_rd) rfl (by omega) (by omega) rfl (fun a71 c71 => ⟨rfl, rfl, ?_⟩)
          refine OL.nil ?_
          refine EX.tail ?_
          refine OL.q (Y.nilCheck rfl) rfl ?_
          refine OL.q (Y.field L97_6 rfl) rfl ?_
          refine OL.store 0 rfl C95 rfl rfl rfl rfl rfl ⟨rfl, rfl, ?_⟩
          refine OL.nil ?_
          have e9 : newC S x = false := by
            unfold newC
            first | (rw [decide_eq_false ng4_8, decide_eq_false ng4_12]; rfl) | (rw [decide_eq_false ng4_8, decide_eq_false (show ¬ x.kids.length = 1 by omega)]; simp)
          exact EX.meet ((a24, c24), (a36, c36), (a71, c71)) [0, 1, 2, 3, 4, 5, 6, 7, 8, 9, 10] trivial ⟨rfl, rfl, rfl, rfl, trivial⟩ rfl (by show [_, _, _, _, _, _, _, _, _, _, _] = [_, _, _, _, _, _, _, _, _, _, _]; simp only []; rw [e9]; rfl)
  ·
    rintro q _
    dsimp only
    refine CW.seq ?_
    refine CW.seq ?_
    refine CW.drawn [(true, 0), (true, 1), (true, 2), (true, 3), (true, 4), (true, 5), (true, 6), (true, 7), (true, 8), (true, 9), (true, 10)] [] [0] mixed (by kernel_rfl) (by repeat (first | exact PanicOk.body | refine PanicOk.then ?_ | refine PanicOk.block ?_)) (by kernel_rfl) rfl rfl rfl rfl ?_
    refine OL.qt (Y.move rfl) rfl ?_
    refine OL.qt (Y.nilCheck rfl) rfl ?_
    refine OL.qt (Y.field L97_4 rfl) rfl ?_
    refine OL.qt (Y.load T60 rfl (Ent.at 0 rfl (Up.cellIs _ _ _) (blk_cell rfl))) rfl ?_
    refine OL.qt (Y.lenSl Tryd.underlying60 rfl) rfl ?_
    refine OL.qt (Y.move rfl) rfl ?_
    refine OL.qt (Y.nilCheck rfl) rfl ?_
    refine OL.qt (Y.field L97_7 rfl) rfl ?_
    refine OL.qt (Y.load T47 rfl (Ent.at 0 rfl (Up.cellIs _ _ _) (blk_cell rfl))) rfl ?_
    refine OL.qt (Y.lenSl Tryd.underlying47 rfl) rfl ?_
    refine OL.qt (Y.leq rfl rfl) rfl ?_
    refine OL.nil ?_
    refine EX.tail ?_
    refine OL.nil ?_
    refine EX.seq ?_
    refine CW.cond rfl (fun h0 => ?_) (fun h0 => ?_)
    · repeat (first | replace h0 := yes h0 | replace h0 := no h0 | replace h0 := nyes h0 | replace h0 := nno h0)
      refine CW.seq ?_
      refine CW.region ?_
      refine OL.q (Y.move rfl) rfl ?_
      refine OL.q (Y.move rfl) rfl ?_
      refine OL.q (Y.nilCheck rfl) rfl ?_
      refine OL.q (Y.field L97_7 rfl) rfl ?_
      refine OL.q (Y.load T47 rfl (Ent.at 0 rfl (Up.cellIs _ _ _) (blk_cell rfl))) rfl ?_
      refine OL.q (Y.lenSl Tryd.underlying47 rfl) rfl ?_
      refine OL.q (Y.conv Tryd.underlying3 Tryd.underlying49 rfl) rfl ?_
      rw [wrap_nat (show v.bn ≤ 100000000 by omega)]
      refine OL.q (Y.rem rfl rfl (by omega)) rfl ?_
      rw [tmod_hix hh.1]
      refine OL.q (Y.assign rfl) rfl ?_
      refine OL.nil ?_
      refine EX.seq ?_
      refine CW.seq ?_
      obtain ⟨i, hie⟩ : ∃ i, hix (hashT x) v.bn = i := ⟨_, rfl⟩
      have hil : i < v.bn := by rw [← hie]; exact hix_lt hbn.1
      rw [hie]
      obtain ⟨b, hb⟩ : ∃ b, S.bucks[i]? = some b := ⟨_, List.getElem?_eq_getElem (by rw [hB.1]; exact hil)⟩
      have hbo := hB.2 i b hb
      obtain ⟨B1, B2, hBe, hB1⟩ := cut_at hb
      have hbi : (B1 ++ b :: B2)[i]? = some b := by rw [← hBe]; exact hb
      have hbq := bucketOf_len v.bn (S.terms.map hashT) i
      rw [← hbo, List.length_map, hS.tn] at hbq
      rw [hBe]
      refine CW.read (fun _ : Unit => True) (fun _ => [blk t [.int .i64 S.most, .slice v.sa v.sn v.sc, .map (some v.m), .slice v.fa v.fn v.fc, .slice (q.1.1) (v.tn + 1) (q.1.2), .slice (q.2.1.1) (v.on + 1) (q.2.1.2), .slice (q.2.2.1) (v.cn + 1) (q.2.2.2), .slice (v.ba) (v.bn) (v.bc)] 97, row v.sa v.sn v.sc 57 2 (S.sorts.map sortCells), mapc Value.string v.m (sortPlaces 0 S.sorts), row v.fa v.fn v.fc 38 3 (S.funs.map funCells), row (q.1.1) (v.tn + 1) (q.1.2) 30 4 ((S.terms ++ [x]).map termCells), row (q.2.1.1) (v.on + 1) (q.2.1.2) 3 1 (S.of.map intCells ++ [[.int .i64 (resE S x)]]), row (q.2.2.1) (v.cn + 1) (q.2.2.2) 4 1 (S.cons.map boolCells ++ [[.bool (newC S x)]]), row (v.ba) (v.bn) (v.bc) 28 1 ((B1 ++ b :: B2).map buckCells), star (B1.map buckRow), row b.a b.n b.c 3 1 (b.l.map intCells), star (B2.map buckRow), imm M, blk bb (termCells x) 30]) (fun h hs => ⟨(), trivial, ?_⟩) (fun _ _ => ?_)
      · rw [show (B1 ++ b :: B2).map buckRow = B1.map buckRow ++ buckRow b :: B2.map buckRow by simp] at hs
        exact star_out (A := [_, _, _, _, _, _, _, _]) (C := imm M :: blk bb (termCells x) 30 :: F) hs
      refine CW.learn (p := b.l.length = b.n) (fun h hs => by
        obtain ⟨_, _, _, _, _, hq, _⟩ := hs.take (i := 9) rfl
        simpa using hq.1) (fun hbl => ?_)
      refine CW.drawn [(true, 0), (true, 1), (true, 2), (true, 3), (true, 4), (true, 5), (true, 6), (true, 7), (true, 8), (true, 9), (true, 10), (true, 11), (true, 12), (false, 13), (false, 14)] [15, 16] [0, 7] mixed (by kernel_rfl) (by repeat (first | exact PanicOk.body | refine PanicOk.then ?_ | refine PanicOk.block ?_)) (by kernel_rfl) rfl rfl rfl rfl ?_
      refine OL.qt (Y.move rfl) rfl ?_
      refine OL.qt (Y.nilCheck rfl) rfl ?_
      refine OL.qt (Y.field L97_7 rfl) rfl ?_
      refine OL.qt (Y.load T47 rfl (Ent.at 0 rfl (Up.cellIs _ _ _) (blk_cell rfl))) rfl ?_
      refine OL.qt (Y.move rfl) rfl ?_
      refine OL.qt (Y.move rfl) rfl ?_
      refine OL.qt (Y.nilCheck rfl) rfl ?_
      refine OL.qt (Y.field L97_7 rfl) rfl ?_
      refine OL.qt (Y.load T47 rfl (Ent.at 0 rfl (Up.cellIs _ _ _) (blk_cell rfl))) rfl ?_
      refine OL.qt (Y.move rfl) rfl ?_
      refine OL.qt (Y.index (k := i) Tryd.underlying47 C28 rfl rfl (Ent.at 1 rfl (Up.rd _ _ _ _) row_rd) rfl (by omega)) rfl ?_
      refine OL.qt (Y.load T28 rfl (cellsIs_at0 (rd_at (Ent.at 1 rfl (Up.rd _ _ _ _) row_rd) (mget buckCells hbi)) rfl)) rfl ?_
      refine OL.qt (Y.move rfl) rfl ?_
      refine OL.buildSlice ([[.int .i64 v.tn]]) Tryd.underlying28 C3 (by decide) rfl (by decide) rfl rfl rfl (fun b106 => ⟨rfl, rfl, ?_⟩)
      refine OL.append [[.int .i64 v.tn]] 9 rfl Tryd.underlying28 E3 rfl rfl (Ent.at 13 rfl (Up.rd _ _ _ _) row_rd) rfl (by omega) (by omega) rfl (fun a107 c107 => ⟨rfl, rfl, ?_⟩)
      refine OL.nil ?_
      refine EX.tail ?_
      refine OL.q (Y.index (k := i) Tryd.underlying47 C28 rfl rfl (Ent.at 7 rfl (Up.rd _ _ _ _) row_rd) rfl (by omega)) rfl ?_
      refine OL.storeRow (k := i) (j := 0) 7 rfl C28 rfl rfl (by omega) rfl rfl rfl (mget buckCells hbi) (by simp [buckCells]) ⟨rfl, rfl, ?_⟩
      refine OL.nil ?_
      refine EX.seq ?_
      refine CW.seq ?_
      refine CW.region ?_
      refine OL.q (Y.move rfl) rfl ?_
      refine OL.q (Y.assign rfl) rfl ?_
      refine OL.nil ?_
      refine EX.seq ?_
      refine CW.ret ?_
      refine EX.retT ?_
      subst hB1
      have e7 := set_mid (B1 := B1) (B2 := B2) (b := b) (b' := ⟨a107, b.n + 1, c107, b.l ++ [(v.tn : Int)]⟩) (xs := (buckCells b).set 0 (.slice a107 (b.n + 1) c107)) rfl
      have e8 : (B1 ++ (⟨a107, b.n + 1, c107, b.l ++ [(v.tn : Int)]⟩ : BuckC) :: B2).map buckRow = B1.map buckRow ++ buckRow ⟨a107, b.n + 1, c107, b.l ++ [(v.tn : Int)]⟩ :: B2.map buckRow := by simp
      have e4 : (S.of ++ [resE S x]).map intCells = S.of.map intCells ++ [[.int .i64 (resE S x)]] := by simp [intCells]
      have e5 : (S.cons ++ [newC S x]).map boolCells = S.cons.map boolCells ++ [[.bool (newC S x)]] := by simp [boolCells]
      have e3 : (b.l ++ [(v.tn : Int)]).map intCells = b.l.map intCells ++ [[.int .i64 v.tn]] := by simp [intCells]
      refine EX.read (fun _ : Unit => True) (fun _ => dagR t (termPut S x (B1 ++ ⟨a107, b.n + 1, c107, b.l ++ [(v.tn : Int)]⟩ :: B2)) (termV v ⟨q.1.1, q.1.2, q.2.1.1, q.2.1.2, q.2.2.1, q.2.2.2, v.ba, v.bn, v.bc⟩) M) (fun h hs => ⟨(), trivial, ?_⟩) (fun _ _ => ?_)
      · have h2 := hs.picked (is := [0, 1, 2, 3, 4, 5, 6, 7, 8, 9, 10, 11]) rfl
        unfold dagR dagL termPut termV
        dsimp only
        rw [e4, e5, e8, ← e7]
        refine star_in (A := [_, _, _, _, _, _, _, _]) (C := imm M :: F) ?_
        show sl ([_, _, _, _, _, _, _, _] ++ star (B1.map buckRow) :: row a107 (b.n + 1) c107 3 1 ((b.l ++ [(v.tn : Int)]).map intCells) :: star (B2.map buckRow) :: imm M :: F) h
        rw [e3]
        exact h2
      exact EX.fin1 [0, 1, 2, 3, 4, 5, 6, 7, 8, 9] rfl rfl rfl ⟨⟨q.1.1, q.1.2, q.2.1.1, q.2.1.2, q.2.2.1, q.2.2.2, v.ba, v.bn, v.bc⟩, _, rfl, by rw [List.map_append]; exact bucks_put (hBe ▸ hB) (by omega) (by rw [List.length_map, hS.tn]), (if_pos (by omega)).symm, rfl⟩
    · repeat (first | replace h0 := yes h0 | replace h0 := no h0 | replace h0 := nyes h0 | replace h0 := nno h0)
      refine CW.skip ?_
      refine EX.seq ?_
      refine CW.seq ?_
      refine CW.region ?_
      refine OL.q (Y.move rfl) rfl ?_
      refine OL.q (Y.move rfl) rfl ?_
      refine OL.q (Y.nilCheck rfl) rfl ?_
      refine OL.q (Y.field L97_7 rfl) rfl ?_
      refine OL.q (Y.load T47 rfl (Ent.at 0 rfl (Up.cellIs _ _ _) (blk_cell rfl))) rfl ?_
      refine OL.q (Y.lenSl Tryd.underlying47 rfl) rfl ?_
      refine OL.q (Y.mul rfl rfl (by omega)) rfl ?_
      refine OL.make (l := 2 * v.bn) (c := 2 * v.bn) Tryd.underlying47 E28 rfl rfl (by omega) (by omega) (Nat.le_refl _) (by omega) (by omega) rfl (fun b117 => ⟨rfl, rfl, ?_⟩)
      refine OL.q (Y.nilCheck rfl) rfl ?_
      refine OL.q (Y.field L97_7 rfl) rfl ?_
      refine OL.store 0 rfl C47 rfl rfl rfl rfl rfl ⟨rfl, rfl, ?_⟩
      refine OL.nil ?_
      refine EX.seq ?_
      refine CW.seq ?_
      refine CW.seq ?_
      refine CW.region ?_
      refine OL.q (Y.move rfl) rfl ?_
      refine OL.q (Y.nilCheck rfl) rfl ?_
      refine OL.q (Y.field L97_4 rfl) rfl ?_
      refine OL.q (Y.load T60 rfl (Ent.at 0 rfl (Up.cellIs _ _ _) (blk_cell rfl))) rfl ?_
      refine OL.q (Y.lenSl Tryd.underlying60 rfl) rfl ?_
      refine OL.q (Y.move rfl) rfl ?_
      refine OL.nil ?_
      refine EX.seq ?_
      refine CW.block ?_
      generalize hnb : b117 = nb
      refine CW.read (fun _ : Unit => True) (fun _ => [blk t [.int .i64 S.most, .slice v.sa v.sn v.sc, .map (some v.m), .slice v.fa v.fn v.fc, .slice (q.1.1) (v.tn + 1) (q.1.2), .slice (q.2.1.1) (v.on + 1) (q.2.1.2), .slice (q.2.2.1) (v.cn + 1) (q.2.2.2), .slice (some ⟨nb, 0, none⟩) (2 * v.bn) (2 * v.bn)] 97, row v.sa v.sn v.sc 57 2 (S.sorts.map sortCells), mapc Value.string v.m (sortPlaces 0 S.sorts), row v.fa v.fn v.fc 38 3 (S.funs.map funCells), row (q.1.1) (v.tn + 1) (q.1.2) 30 4 ((S.terms ++ [x]).map termCells), row (q.2.1.1) (v.on + 1) (q.2.1.2) 3 1 (S.of.map intCells ++ [[.int .i64 (resE S x)]]), row (q.2.2.1) (v.cn + 1) (q.2.2.2) 4 1 (S.cons.map boolCells ++ [[.bool (newC S x)]]), row (some ⟨nb, 0, none⟩) (2 * v.bn) (2 * v.bn) 28 1 ((List.replicate (2 * v.bn) nilB).map buckCells), star ((List.replicate (2 * v.bn) nilB).map buckRow), imm M]) (fun h hs => ⟨(), trivial, ?_⟩) (fun _ _ => ?_)
      · have h2 := hs.picked (is := [0, 1, 2, 3, 4, 5, 6, 11, 9]) rfl
        have e6 : (List.replicate (2 * v.bn) nilB).map buckCells = List.replicate (2 * v.bn) [Value.slice none 0 0] := by simp [buckCells, nilB]
        rw [e6]
        exact sl_mid [_, _, _, _, _, _, _, _] (Y := star _ :: imm M :: F) (fun k hk => sl_nils (2 * v.bn) hk) h2
      refine CW.loop (α := Nat × List BuckC) ⟨fun y => y.1 ≤ v.tn + 1 ∧ Bucks (2 * v.bn) (((S.terms ++ [x]).map hashT).take y.1) y.2, fun y => [(0, .pointer (some ⟨t, 0, none⟩)), (7, .int .i64 v.tn), (123, .slice q.1.1 (v.tn + 1) q.1.2), (124, .int .i64 (v.tn + 1 : Nat)), (125, .int .i64 y.1)], fun y => [blk t [.int .i64 S.most, .slice v.sa v.sn v.sc, .map (some v.m), .slice v.fa v.fn v.fc, .slice (q.1.1) (v.tn + 1) (q.1.2), .slice (q.2.1.1) (v.on + 1) (q.2.1.2), .slice (q.2.2.1) (v.cn + 1) (q.2.2.2), .slice (some ⟨nb, 0, none⟩) (2 * v.bn) (2 * v.bn)] 97, row v.sa v.sn v.sc 57 2 (S.sorts.map sortCells), mapc Value.string v.m (sortPlaces 0 S.sorts), row v.fa v.fn v.fc 38 3 (S.funs.map funCells), row (q.1.1) (v.tn + 1) (q.1.2) 30 4 ((S.terms ++ [x]).map termCells), row (q.2.1.1) (v.on + 1) (q.2.1.2) 3 1 (S.of.map intCells ++ [[.int .i64 (resE S x)]]), row (q.2.2.1) (v.cn + 1) (q.2.2.2) 4 1 (S.cons.map boolCells ++ [[.bool (newC S x)]]), row (some ⟨nb, 0, none⟩) (2 * v.bn) (2 * v.bn) 28 1 ((y.2).map buckCells), star ((y.2).map buckRow), imm M]⟩
        (fun y => v.tn + 1 - y.1) (0, List.replicate (2 * v.bn) nilB) [0, 1, 2, 3, 4, 5, 6, 7, 8, 9] ⟨Nat.zero_le _, bucks_nil _⟩ ⟨rfl, rfl, rfl, rfl, rfl, trivial⟩ rfl rfl ?_
      rintro ⟨k, B⟩ ⟨hk, hBk⟩
      dsimp only at hk hBk ⊢
      refine CW.seq ?_
      refine CW.region ?_
      refine OL.q (Y.lss rfl rfl) rfl ?_
      refine OL.nil ?_
      refine EX.seq ?_
      refine CW.seq ?_
      refine CW.cond rfl (fun h1 => ?_) (fun h1 => ?_)
      · repeat (first | replace h1 := yes h1 | replace h1 := no h1 | replace h1 := nyes h1 | replace h1 := nno h1)
        obtain ⟨y, hy⟩ : ∃ y, (S.terms ++ [x])[k]? = some y := ⟨_, List.getElem?_eq_getElem (by simp [hS.tn]; omega)⟩
        obtain ⟨⟨hyr, hyc, hyl⟩, hyn, hys⟩ := hT y (mem_of hy)
        have hyh : ((S.terms ++ [x]).map hashT)[k]? = some (hashT y) := by rw [List.getElem?_map, hy]; rfl
        have hyb := hash_bd y
        refine CW.skip ?_
        refine EX.seq ?_
        refine CW.seq ?_
        refine CW.block ?_
        refine CW.seq ?_
        refine CW.region ?_
        refine OL.q (Y.move rfl) rfl ?_
        refine OL.q (Y.index (k := k) Tryd.underlying60 C30 rfl rfl (Ent.at 4 rfl (Up.rd _ _ _ _) row_rd) rfl (by omega)) rfl ?_
        refine OL.q (Y.loadN S30 rfl rfl (rd_at (Ent.at 4 rfl (Up.rd _ _ _ _) row_rd) (mget termCells hy))) rfl ?_
        refine OL.alloc C30 rfl (fun b10 => ⟨rfl, rfl, ?_⟩)
        refine OL.q (Y.assign rfl) rfl ?_
        refine OL.storeAll 10 rfl C30 rfl rfl rfl rfl rfl rfl ⟨rfl, rfl, ?_⟩
        refine OL.nil ?_
        refine EX.seq ?_
        refine CW.seq ?_
        refine CW.drawn [(true, 0), (true, 2), (true, 3), (true, 4), (true, 5), (true, 6), (true, 7), (false, 1), (true, 8)] [9] [0, 10] mixed (by kernel_rfl) (by repeat (first | exact PanicOk.body | refine PanicOk.then ?_ | refine PanicOk.block ?_)) (by kernel_rfl) rfl rfl rfl rfl ?_
        refine OL.qt (Y.loadN S30 rfl rfl (Ent.at 1 rfl (Up.cellsIs _ _ _) blk_cells)) rfl ?_
        refine OL.qt (Y.move rfl) rfl ?_
        refine OL.qt (Y.nilCheck rfl) rfl ?_
        refine OL.qt (Y.field L97_7 rfl) rfl ?_
        refine OL.qt (Y.load T47 rfl (Ent.at 0 rfl (Up.cellIs _ _ _) (blk_cell rfl))) rfl ?_
        refine OL.qt (Y.lenSl Tryd.underlying47 rfl) rfl ?_
        refine OL.qt (Y.conv Tryd.underlying3 Tryd.underlying49 rfl) rfl ?_
        refine OL.call [] (hash_any y ⟨hyl, hyn⟩ hys) Tryd.call24 rfl rfl rfl rfl (Ent.at 9 rfl (Up.rd _ _ _ _) (imm_ent (Up.rd _ _ _ _) hyr)) rfl ?_
        rintro _ _ ⟨rfl, rfl⟩
        refine ⟨rfl, rfl, ?_⟩
        rw [wrap_nat (show 2 * v.bn ≤ 100000000 by omega)]
        refine OL.qt (Y.rem rfl rfl (by omega)) rfl ?_
        refine OL.nil ?_
        refine EX.tail ?_
        rw [tmod_hix hyb.1]
        refine OL.q (Y.assign rfl) rfl ?_
        refine OL.nil ?_
        refine EX.seq ?_
        obtain ⟨i, hie⟩ : ∃ i, hix (hashT y) (2 * v.bn) = i := ⟨_, rfl⟩
        have hil : i < 2 * v.bn := by rw [← hie]; exact hix_lt (by omega)
        rw [hie]
        obtain ⟨b, hb⟩ : ∃ b, B[i]? = some b := ⟨_, List.getElem?_eq_getElem (by rw [hBk.1]; exact hil)⟩
        have hbo := hBk.2 i b hb
        obtain ⟨B1, B2, rfl, hB1⟩ := cut_at hb
        have hbq := bucketOf_len (2 * v.bn) (((S.terms ++ [x]).map hashT).take k) i
        rw [← hbo, List.length_take] at hbq
        generalize hb10 : b10 = bk
        refine CW.read (fun _ : Unit => True) (fun _ => [blk t [.int .i64 S.most, .slice v.sa v.sn v.sc, .map (some v.m), .slice v.fa v.fn v.fc, .slice (q.1.1) (v.tn + 1) (q.1.2), .slice (q.2.1.1) (v.on + 1) (q.2.1.2), .slice (q.2.2.1) (v.cn + 1) (q.2.2.2), .slice (some ⟨nb, 0, none⟩) (2 * v.bn) (2 * v.bn)] 97, row v.sa v.sn v.sc 57 2 (S.sorts.map sortCells), mapc Value.string v.m (sortPlaces 0 S.sorts), row v.fa v.fn v.fc 38 3 (S.funs.map funCells), row (q.1.1) (v.tn + 1) (q.1.2) 30 4 ((S.terms ++ [x]).map termCells), row (q.2.1.1) (v.on + 1) (q.2.1.2) 3 1 (S.of.map intCells ++ [[.int .i64 (resE S x)]]), row (q.2.2.1) (v.cn + 1) (q.2.2.2) 4 1 (S.cons.map boolCells ++ [[.bool (newC S x)]]), row (some ⟨nb, 0, none⟩) (2 * v.bn) (2 * v.bn) 28 1 ((B1 ++ b :: B2).map buckCells), star (B1.map buckRow), row b.a b.n b.c 3 1 (b.l.map intCells), star (B2.map buckRow), imm M, blk bk (termCells y) 30]) (fun h hs => ⟨(), trivial, ?_⟩) (fun _ _ => ?_)
        · rw [show (B1 ++ b :: B2).map buckRow = B1.map buckRow ++ buckRow b :: B2.map buckRow by simp] at hs
          exact star_out (A := [_, _, _, _, _, _, _, _]) (C := imm M :: blk bk (termCells y) 30 :: F) hs
        refine CW.learn (p := b.l.length = b.n) (fun h hs => by
          obtain ⟨_, _, _, _, _, hq, _⟩ := hs.take (i := 9) rfl
          simpa using hq.1) (fun hbl => ?_)
        refine CW.drawn [(true, 0), (true, 1), (true, 2), (true, 3), (true, 4), (true, 5), (true, 6), (true, 7), (true, 8), (true, 9), (true, 10), (true, 11), (true, 12), (false, 13), (false, 14)] [15, 16] [0, 7] mixed (by kernel_rfl) (by repeat (first | exact PanicOk.body | refine PanicOk.then ?_ | refine PanicOk.block ?_)) (by kernel_rfl) rfl rfl rfl rfl ?_
        refine OL.qt (Y.move rfl) rfl ?_
        refine OL.qt (Y.nilCheck rfl) rfl ?_
        refine OL.qt (Y.field L97_7 rfl) rfl ?_
        refine OL.qt (Y.load T47 rfl (Ent.at 0 rfl (Up.cellIs _ _ _) (blk_cell rfl))) rfl ?_
        refine OL.qt (Y.move rfl) rfl ?_
        refine OL.qt (Y.move rfl) rfl ?_
        refine OL.qt (Y.nilCheck rfl) rfl ?_
        refine OL.qt (Y.field L97_7 rfl) rfl ?_
        refine OL.qt (Y.load T47 rfl (Ent.at 0 rfl (Up.cellIs _ _ _) (blk_cell rfl))) rfl ?_
        refine OL.qt (Y.move rfl) rfl ?_
        refine OL.qt (Y.index (k := i) Tryd.underlying47 C28 rfl rfl (Ent.at 1 rfl (Up.rd _ _ _ _) row_rd) rfl (by omega)) rfl ?_
        refine OL.qt (Y.load T28 rfl (cellsIs_at0 (rd_at (Ent.at 1 rfl (Up.rd _ _ _ _) row_rd) (mget buckCells hb)) rfl)) rfl ?_
        refine OL.qt (Y.move rfl) rfl ?_
        refine OL.buildSlice ([[.int .i64 k]]) Tryd.underlying28 C3 (by decide) rfl (by decide) rfl rfl rfl (fun b152 => ⟨rfl, rfl, ?_⟩)
        refine OL.append [[.int .i64 k]] 9 rfl Tryd.underlying28 E3 rfl rfl (Ent.at 13 rfl (Up.rd _ _ _ _) row_rd) rfl (by omega) (by omega) rfl (fun a153 c153 => ⟨rfl, rfl, ?_⟩)
        refine OL.nil ?_
        refine EX.tail ?_
        refine OL.q (Y.index (k := i) Tryd.underlying47 C28 rfl rfl (Ent.at 7 rfl (Up.rd _ _ _ _) row_rd) rfl (by omega)) rfl ?_
        refine OL.storeRow (k := i) (j := 0) 7 rfl C28 rfl rfl (by omega) rfl rfl rfl (mget buckCells hb) (by simp [buckCells]) ⟨rfl, rfl, ?_⟩
        refine OL.nil ?_
        refine EX.norB ?_
        refine EX.seq ?_
        refine CW.region ?_
        refine OL.q (Y.add1 rfl rfl rfl (by omega)) rfl ?_
        refine OL.q (Y.move rfl) rfl ?_
        refine OL.nil ?_
        subst hB1
        have e7 := set_mid (B1 := B1) (B2 := B2) (b := b) (b' := ⟨a153, b.n + 1, c153, b.l ++ [(k : Int)]⟩) (xs := (buckCells b).set 0 (.slice a153 (b.n + 1) c153)) rfl
        have e8 : (B1 ++ (⟨a153, b.n + 1, c153, b.l ++ [(k : Int)]⟩ : BuckC) :: B2).map buckRow = B1.map buckRow ++ buckRow ⟨a153, b.n + 1, c153, b.l ++ [(k : Int)]⟩ :: B2.map buckRow := by simp
        have e4 : (S.of ++ [resE S x]).map intCells = S.of.map intCells ++ [[.int .i64 (resE S x)]] := by simp [intCells]
        have e5 : (S.cons ++ [newC S x]).map boolCells = S.cons.map boolCells ++ [[.bool (newC S x)]] := by simp [boolCells]
        have e3 : (b.l ++ [(k : Int)]).map intCells = b.l.map intCells ++ [[.int .i64 k]] := by simp [intCells]
        refine EX.read (fun _ : Unit => True) (fun _ => [blk t [.int .i64 S.most, .slice v.sa v.sn v.sc, .map (some v.m), .slice v.fa v.fn v.fc, .slice (q.1.1) (v.tn + 1) (q.1.2), .slice (q.2.1.1) (v.on + 1) (q.2.1.2), .slice (q.2.2.1) (v.cn + 1) (q.2.2.2), .slice (some ⟨nb, 0, none⟩) (2 * v.bn) (2 * v.bn)] 97, row v.sa v.sn v.sc 57 2 (S.sorts.map sortCells), mapc Value.string v.m (sortPlaces 0 S.sorts), row v.fa v.fn v.fc 38 3 (S.funs.map funCells), row (q.1.1) (v.tn + 1) (q.1.2) 30 4 ((S.terms ++ [x]).map termCells), row (q.2.1.1) (v.on + 1) (q.2.1.2) 3 1 (S.of.map intCells ++ [[.int .i64 (resE S x)]]), row (q.2.2.1) (v.cn + 1) (q.2.2.2) 4 1 (S.cons.map boolCells ++ [[.bool (newC S x)]]), row (some ⟨nb, 0, none⟩) (2 * v.bn) (2 * v.bn) 28 1 ((B1 ++ ⟨a153, b.n + 1, c153, b.l ++ [(k : Int)]⟩ :: B2).map buckCells), star ((B1 ++ ⟨a153, b.n + 1, c153, b.l ++ [(k : Int)]⟩ :: B2).map buckRow), imm M]) (fun h hs => ⟨(), trivial, ?_⟩) (fun _ _ => ?_)
        · have h2 := hs.picked (is := [0, 1, 2, 3, 4, 5, 6, 7, 8, 9, 10, 11]) rfl
          rw [e8, ← e7]
          refine star_in (A := [_, _, _, _, _, _, _, _]) (C := imm M :: F) ?_
          show sl ([_, _, _, _, _, _, _, _] ++ star (B1.map buckRow) :: row a153 (b.n + 1) c153 3 1 ((b.l ++ [(k : Int)]).map intCells) :: star (B2.map buckRow) :: imm M :: F) h
          rw [e3]
          exact h2
        exact EX.next (k + 1, B1 ++ ⟨a153, b.n + 1, c153, b.l ++ [(k : Int)]⟩ :: B2) [0, 1, 2, 3, 4, 5, 6, 7, 8, 9] (show k + 1 ≤ v.tn + 1 ∧ Bucks _ _ _ from ⟨by omega, by rw [take_snoc hyh]; exact bucks_put hBk (by omega) (by rw [show (((S.terms ++ [x]).map hashT).take k).length = k by rw [List.length_take, List.length_map, List.length_append, hS.tn, List.length_singleton]; omega])⟩) (show v.tn + 1 - (k + 1) < v.tn + 1 - k by omega) ⟨rfl, rfl, rfl, rfl, rfl, trivial⟩ rfl rfl
      · repeat (first | replace h1 := yes h1 | replace h1 := no h1 | replace h1 := nyes h1 | replace h1 := nno h1)
        refine CW.exit ?_
        refine EX.exitT ?_
        refine EX.exitT ?_
        refine EX.exitB ?_
        refine EX.seq ?_
        refine CW.seq ?_
        refine CW.region ?_
        refine OL.q (Y.move rfl) rfl ?_
        refine OL.q (Y.assign rfl) rfl ?_
        refine OL.nil ?_
        refine EX.seq ?_
        refine CW.ret ?_
        have hkn : k = v.tn + 1 := by omega
        subst hkn
        rw [List.take_of_length_le (by simp [hS.tn])] at hBk
        refine EX.fin1 [0, 1, 2, 3, 4, 5, 6, 7, 8, 9] rfl rfl rfl ⟨⟨q.1.1, q.1.2, q.2.1.1, q.2.1.2, q.2.2.1, q.2.2.2, some ⟨nb, 0, none⟩, 2 * v.bn, 2 * v.bn⟩, B, rfl, hBk, (if_neg (by omega)).symm, ?_⟩
        have e4 : (S.of ++ [resE S x]).map intCells = S.of.map intCells ++ [[.int .i64 (resE S x)]] := by simp [intCells]
        have e5 : (S.cons ++ [newC S x]).map boolCells = S.cons.map boolCells ++ [[.bool (newC S x)]] := by simp [boolCells]
        unfold dagR dagL termPut termV
        dsimp only
        rw [e4, e5]
        rfl
end Go.Proofs.YtmlnnepgigieaaaDoor
