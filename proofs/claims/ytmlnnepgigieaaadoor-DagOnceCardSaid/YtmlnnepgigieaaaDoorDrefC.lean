/- The document's arena: its sorts, functions; what is constant. -/
import Derived.Test.YtmlnnepgigieaaaDoorDrefB
import Derived.Test.YtmlnnepgigieaaaDoorDagK
namespace Go.Proofs.YtmlnnepgigieaaaDoor
open Go.Sx

theorem L57_0 : Fld Tryd.prog 57 0 0 := ⟨⟨_, Tryd.underlying57, _, rfl, rfl, 1, by decide, Tryd.sizeOf9⟩⟩
theorem L62_0 : Fld Tryd.prog 62 0 0 := ⟨⟨_, Tryd.underlying62, _, rfl, rfl, 1, by decide, Tryd.sizeOf53⟩⟩
theorem L62_1 : Fld Tryd.prog 62 1 1 := ⟨⟨_, Tryd.underlying62, _, rfl, rfl, 1, by decide, Tryd.sizeOf55⟩⟩
theorem L62_2 : Fld Tryd.prog 62 2 2 := ⟨⟨_, Tryd.underlying62, _, rfl, rfl, 1, by decide, Tryd.sizeOf60⟩⟩


/-- The document's arena as it lies: what is constant lies nowhere. -/
def refL (r : Nat) (S : DagS) (v : DagV) : List HP :=
  [blk r [.slice v.sa v.sn v.sc, .slice v.fa v.fn v.fc, .slice v.ta v.tn v.tc, .slice v.oa v.on v.oc, .int .i64 S.most] 62,
   row v.sa v.sn v.sc 57 2 (S.sorts.map sortCells), row v.fa v.fn v.fc 38 3 (S.funs.map funCells), row v.ta v.tn v.tc 30 4 (S.terms.map termCells), row v.oa v.on v.oc 3 1 (S.of.map intCells)]
structure RfOk (M : PH) (S : DagS) (v : DagV) : Prop where
  sn : S.sorts.length = v.sn
  fn : S.funs.length = v.fn
  tn : S.terms.length = v.tn
  on : S.of.length = v.tn
  onv : v.on = v.tn
  sorts : ∀ s ∈ S.sorts, s.Ok M ∧ s.n ≤ 1000000
  funs : ∀ f ∈ S.funs, f.Ok M ∧ f.n ≤ 1000000
  terms : ∀ y ∈ S.terms, y.Ok M ∧ y.n ≤ 1000000 ∧ y.num.size ≤ 1000000
  small : v.sn ≤ 1000000 ∧ v.fn ≤ 1000000 ∧ v.tn ≤ 1048576
theorem findS_snoc {name : ByteArray} {l : List Int} {s : SortC} : ∀ {r : List SortC}, findS name l r = none → ¬ (s.name = name ∧ s.args = l) → findS name l (r ++ [s]) = none
  | [], _, h => by simp [findS, h]
  | q :: r, h, hn => by
    simp only [findS] at h
    split at h
    · cases h
    · rename_i hq
      simp only [Option.map_eq_none_iff] at h
      simp only [List.cons_append, findS, if_neg hq, findS_snoc h hn, Option.map_none]
theorem findS_at {name : ByteArray} {l : List Int} : ∀ {r : List SortC} {k : Nat} {s : SortC}, r[k]? = some s → s.name = name → s.args = l → findS name l (r.take k) = none → findS name l r = some k
  | [], k, s, h, _, _, _ => by simp at h
  | q :: r, 0, s, h, h1, h2, _ => by simp at h; subst h; simp [findS, h1, h2]
  | q :: r, k + 1, s, h, h1, h2, h3 => by
    simp only [List.take_succ_cons, findS] at h3
    split at h3
    · cases h3
    · rename_i hq
      simp only [Option.map_eq_none_iff] at h3
      simp only [List.getElem?_cons_succ] at h
      simp only [findS, if_neg hq, findS_at h h1 h2 h3]; rfl


theorem rsort_low (r : Nat) (S : DagS) (v : DagV) (M : PH) (hS : RfOk M S v) (name : ByteArray) (a : Option Addr) (n c : Nat) (l : List Int) (hr : rowIn M a n c l) (hn : n ≤ 1000000) (hsn : v.sn < 1000000) :
    FS Tryd.prog 64 [.pointer (some ⟨r, 0, none⟩), .string name, .slice a n c] (imm M) [blk r [.slice v.sa v.sn v.sc, .slice v.fa v.fn v.fc, .slice v.ta v.tn v.tc, .slice v.oa v.on v.oc, .int .i64 S.most] 62, row v.sa v.sn v.sc 57 2 (S.sorts.map sortCells), row v.fa v.fn v.fc 38 3 (S.funs.map funCells), row v.ta v.tn v.tc 30 4 (S.terms.map termCells), row v.oa v.on v.oc 3 1 (S.of.map intCells)] (fun q H => (l.any (bad v.sn) = true ∧ q = .tuple #[.int .i64 0, .int .i64 2] ∧ H = refL r S v) ∨ (l.any (bad v.sn) = false ∧ ∃ k : Nat, findS name l S.sorts = some k ∧ q = .tuple #[.int .i64 k, .int .i64 0] ∧ H = refL r S v) ∨ (l.any (bad v.sn) = false ∧ findS name l S.sorts = none ∧ ∃ sa sc, q = .tuple #[.int .i64 v.sn, .int .i64 0] ∧ H = refL r (sortPut S ⟨name, a, n, c, l⟩) (sortV v sa sc))) := by
  refine FS.intro (N := 83) Tryd.func64 rfl rfl rfl (fun F w0 hF => ?_)
  have hrd := hr.1
  have hrl := hr.2.2
  have hsm := hS.small
  refine CW.seq ?_
  refine CW.region ?_
  refine OL.q (Y.assign rfl) rfl ?_
  refine OL.q (Y.assign rfl) rfl ?_
  refine OL.nil ?_
  refine EX.seq ?_
  refine CW.seq ?_
  refine CW.seq ?_
  refine CW.region ?_
  refine OL.q (Y.assign rfl) rfl ?_
  refine OL.nil ?_
  refine EX.seq ?_
  refine CW.block ?_
  refine CW.loop (α := Nat) ⟨(fun k => k ≤ n ∧ (l.take k).any (bad v.sn) = false), (fun k => [(0, Value.pointer (some { block := r, off := 0 })), (1, Value.string name), (2, Value.slice a n c), (8, .int .i64 k)]), (fun k => [blk r [Value.slice v.sa v.sn v.sc, Value.slice v.fa v.fn v.fc, Value.slice v.ta v.tn v.tc, Value.slice v.oa v.on v.oc, Value.int IntKind.i64 ↑S.most] 62, row v.sa v.sn v.sc 57 2 (List.map sortCells S.sorts), row v.fa v.fn v.fc 38 3 (List.map funCells S.funs), row v.ta v.tn v.tc 30 4 (List.map termCells S.terms), row v.oa v.on v.oc 3 1 (List.map intCells S.of)])⟩
    (fun k => (n - k : Nat)) 0 [0, 1, 2, 3, 4] ⟨Nat.zero_le _, rfl⟩ ⟨rfl, rfl, rfl, rfl, trivial⟩ rfl rfl ?_
  rintro k ⟨hk, hb⟩
  dsimp only at hk hb ⊢
  refine CW.seq ?_
  refine CW.seq ?_
  refine CW.region ?_
  refine OL.q (Y.move rfl) rfl ?_
  refine OL.q (Y.move rfl) rfl ?_
  refine OL.q (Y.lenSl Tryd.underlying28 rfl) rfl ?_
  refine OL.q (Y.lss rfl rfl) rfl ?_
  refine OL.nil ?_
  refine EX.seq ?_
  refine CW.cond rfl (fun h0 => ?_) (fun h0 => ?_)
  · have bh0 := h0
    repeat (first | replace h0 := yes h0 | replace h0 := no h0 | replace h0 := nyes h0 | replace h0 := nno h0)
    obtain ⟨z, hp⟩ : ∃ p, l[k]? = some p := ⟨_, List.getElem?_eq_getElem (by omega)⟩
    refine CW.skip ?_
    refine EX.seq ?_
    refine CW.seq ?_
    refine CW.block ?_
    refine CW.seq ?_
    refine CW.drawn [(true, 0), (true, 1), (true, 2), (true, 3), (true, 4), (true, 5), (true, 6), (true, 7), (true, 8), (true, 9), (true, 10), (true, 11), (true, 12), (true, 13), (true, 14), (true, 15), (true, 16)] [] [0] mixed (by kernel_rfl) (by repeat (first | exact PanicOk.body | refine PanicOk.then ?_ | refine PanicOk.block ?_)) (by kernel_rfl) rfl rfl rfl rfl ?_
    refine OL.qt (Y.move rfl) rfl ?_
    refine OL.qt (Y.move rfl) rfl ?_
    refine OL.qt (Y.index Tryd.underlying28 C3 rfl rfl (Ent.frame (Up.rd _ _ _ _) (fun h hs => imm_ent (Up.rd _ _ _ _) (by assumption) h (hF h hs))) rfl (by omega)) rfl ?_
    refine OL.qt (Y.load T3 rfl (cellsIs_at0 (rd_at (Ent.frame (Up.rd _ _ _ _) (fun h hs => imm_ent (Up.rd _ _ _ _) (by assumption) h (hF h hs))) (mget _ (by assumption))) rfl)) rfl ?_
    refine OL.qt (Y.lss rfl rfl) rfl ?_
    refine OL.qt (Y.move rfl) rfl ?_
    refine OL.guard (s := 21) rfl (fun g4_5 => ?_) (fun g4_5 => ?_)
    · have ng4_5 := g4_5
      repeat (first | replace ng4_5 := yes ng4_5 | replace ng4_5 := no ng4_5 | replace ng4_5 := nyes ng4_5 | replace ng4_5 := nno ng4_5)
      refine OL.tno g4_5 rfl rfl rfl ?_
      refine OL.tno g4_5 rfl rfl rfl ?_
      refine OL.tno g4_5 rfl rfl rfl ?_
      refine OL.tno g4_5 rfl rfl rfl ?_
      refine OL.tno g4_5 rfl rfl rfl ?_
      refine OL.tno g4_5 rfl rfl rfl ?_
      refine OL.tno g4_5 rfl rfl rfl ?_
      refine OL.tno g4_5 rfl rfl rfl ?_
      refine OL.tno g4_5 rfl rfl rfl ?_
      refine OL.tno g4_5 rfl rfl rfl ?_
      refine OL.qt (Y.pickT rfl g4_5 rfl) rfl ?_
      refine OL.nil ?_
      refine EX.tail ?_
      refine OL.nil ?_
      refine EX.seq ?_
      refine CW.condT rfl (rfl) ?_
      refine CW.seq ?_
      refine CW.region ?_
      refine OL.q (Y.assign rfl) rfl ?_
      refine OL.q (Y.assign rfl) rfl ?_
      refine OL.nil ?_
      refine EX.seq ?_
      refine CW.ret ?_
      refine EX.retB ?_
      refine EX.retT ?_
      refine EX.retT ?_
      refine EX.retB ?_
      refine EX.retT ?_
      exact EX.fin2 [0, 1, 2, 3, 4] rfl rfl rfl rfl (.inl ⟨any_mem (mem_of hp) (by unfold bad; simp; omega), rfl, rfl⟩)
    · have ng4_5 := g4_5
      repeat (first | replace ng4_5 := yes ng4_5 | replace ng4_5 := no ng4_5 | replace ng4_5 := nyes ng4_5 | replace ng4_5 := nno ng4_5)
      refine OL.ont g4_5 rfl rfl ?_
      refine OL.qt (Y.move rfl) rfl ?_
      refine OL.ont g4_5 rfl rfl ?_
      refine OL.qt (Y.move rfl) rfl ?_
      refine OL.ont g4_5 rfl rfl ?_
      refine OL.qt (Y.index Tryd.underlying28 C3 rfl rfl (Ent.frame (Up.rd _ _ _ _) (fun h hs => imm_ent (Up.rd _ _ _ _) (by assumption) h (hF h hs))) rfl (by omega)) rfl ?_
      refine OL.ont g4_5 rfl rfl ?_
      refine OL.qt (Y.load T3 rfl (cellsIs_at0 (rd_at (Ent.frame (Up.rd _ _ _ _) (fun h hs => imm_ent (Up.rd _ _ _ _) (by assumption) h (hF h hs))) (mget _ (by assumption))) rfl)) rfl ?_
      refine OL.ont g4_5 rfl rfl ?_
      refine OL.qt (Y.move rfl) rfl ?_
      refine OL.ont g4_5 rfl rfl ?_
      refine OL.qt (Y.nilCheck rfl) rfl ?_
      refine OL.ont g4_5 rfl rfl ?_
      refine OL.qt (Y.field L62_0 rfl) rfl ?_
      refine OL.ont g4_5 rfl rfl ?_
      refine OL.qt (Y.load T53 rfl (Ent.at 0 rfl (Up.cellIs _ _ _) (blk_cell rfl))) rfl ?_
      refine OL.ont g4_5 rfl rfl ?_
      refine OL.qt (Y.lenSl Tryd.underlying53 rfl) rfl ?_
      refine OL.ont g4_5 rfl rfl ?_
      refine OL.qt (Y.geq rfl rfl) rfl ?_
      refine OL.qt (Y.pickF rfl g4_5 rfl) rfl ?_
      refine OL.nil ?_
      refine EX.tail ?_
      refine OL.nil ?_
      refine EX.seq ?_
      refine CW.cond rfl (fun h1 => ?_) (fun h1 => ?_)
      · have bh1 := h1
        repeat (first | replace h1 := yes h1 | replace h1 := no h1 | replace h1 := nyes h1 | replace h1 := nno h1)
        refine CW.seq ?_
        refine CW.region ?_
        refine OL.q (Y.assign rfl) rfl ?_
        refine OL.q (Y.assign rfl) rfl ?_
        refine OL.nil ?_
        refine EX.seq ?_
        refine CW.ret ?_
        refine EX.retB ?_
        refine EX.retT ?_
        refine EX.retT ?_
        refine EX.retB ?_
        refine EX.retT ?_
        exact EX.fin2 [0, 1, 2, 3, 4] rfl rfl rfl rfl (.inl ⟨any_mem (mem_of hp) (by unfold bad; simp; omega), rfl, rfl⟩)
      · have bh1 := h1
        repeat (first | replace h1 := yes h1 | replace h1 := no h1 | replace h1 := nyes h1 | replace h1 := nno h1)
        refine CW.skip ?_
        refine EX.norB ?_
        refine EX.seq ?_
        refine CW.region ?_
        refine OL.q (Y.move rfl) rfl ?_
        refine OL.q (Y.add1 rfl rfl rfl (by omega)) rfl ?_
        refine OL.q (Y.assign rfl) rfl ?_
        refine OL.nil ?_
        exact EX.next (k + 1) [0, 1, 2, 3, 4] (⟨by omega, by rw [any_take hp, hb, bad_false.2 ⟨by omega, by omega⟩]; rfl⟩) (by first | omega | (dsimp only; omega)) ⟨rfl, rfl, rfl, rfl, trivial⟩ rfl rfl
  · have bh0 := h0
    repeat (first | replace h0 := yes h0 | replace h0 := no h0 | replace h0 := nyes h0 | replace h0 := nno h0)
    have hkn : n = k := by omega
    subst hkn
    rw [List.take_of_length_le (by omega)] at hb
    refine CW.exit ?_
    refine EX.exitT ?_
    refine EX.exitT ?_
    refine EX.exitB ?_
    refine EX.seq ?_
    refine CW.seq ?_
    refine CW.seq ?_
    refine CW.region ?_
    refine OL.q (Y.assign rfl) rfl ?_
    refine OL.nil ?_
    refine EX.seq ?_
    refine CW.block ?_
    refine CW.loop (α := Nat) ⟨(fun k => k ≤ v.sn ∧ findS name l (S.sorts.take k) = none), (fun k => [(0, Value.pointer (some { block := r, off := 0 })), (1, Value.string name), (2, Value.slice a n c), (9, .int .i64 k)]), (fun k => [blk r [Value.slice v.sa v.sn v.sc, Value.slice v.fa v.fn v.fc, Value.slice v.ta v.tn v.tc, Value.slice v.oa v.on v.oc, Value.int IntKind.i64 ↑S.most] 62, row v.sa v.sn v.sc 57 2 (List.map sortCells S.sorts), row v.fa v.fn v.fc 38 3 (List.map funCells S.funs), row v.ta v.tn v.tc 30 4 (List.map termCells S.terms), row v.oa v.on v.oc 3 1 (List.map intCells S.of)])⟩
      (fun k => (v.sn - k : Nat)) 0 [0, 1, 2, 3, 4] ⟨Nat.zero_le _, rfl⟩ ⟨rfl, rfl, rfl, rfl, trivial⟩ rfl rfl ?_
    rintro k ⟨hk, hfk⟩
    dsimp only at hk hfk ⊢
    refine CW.seq ?_
    refine CW.seq ?_
    refine CW.region ?_
    refine OL.q (Y.move rfl) rfl ?_
    refine OL.q (Y.move rfl) rfl ?_
    refine OL.q (Y.nilCheck rfl) rfl ?_
    refine OL.q (Y.field L62_0 rfl) rfl ?_
    refine OL.q (Y.load T53 rfl (Ent.at 0 rfl (Up.cellIs _ _ _) (blk_cell rfl))) rfl ?_
    refine OL.q (Y.lenSl Tryd.underlying53 rfl) rfl ?_
    refine OL.q (Y.lss rfl rfl) rfl ?_
    refine OL.nil ?_
    refine EX.seq ?_
    refine CW.cond rfl (fun h2 => ?_) (fun h2 => ?_)
    · have bh2 := h2
      repeat (first | replace h2 := yes h2 | replace h2 := no h2 | replace h2 := nyes h2 | replace h2 := nno h2)
      obtain ⟨s, hp⟩ : ∃ p, S.sorts[k]? = some p := ⟨_, List.getElem?_eq_getElem (by rw [hS.sn]; omega)⟩
      obtain ⟨⟨hsr, hsc, hsl⟩, hsz⟩ := hS.sorts s (mem_of hp)
      refine CW.skip ?_
      refine EX.seq ?_
      refine CW.seq ?_
      refine CW.block ?_
      refine CW.seq ?_
      refine CW.region ?_
      refine OL.q (Y.move rfl) rfl ?_
      refine OL.q (Y.nilCheck rfl) rfl ?_
      refine OL.q (Y.field L62_0 rfl) rfl ?_
      refine OL.q (Y.load T53 rfl (Ent.at 0 rfl (Up.cellIs _ _ _) (blk_cell rfl))) rfl ?_
      refine OL.q (Y.move rfl) rfl ?_
      refine OL.q (Y.index Tryd.underlying53 C57 rfl rfl (Ent.at 1 rfl (Up.rd _ _ _ _) row_rd) rfl (by omega)) rfl ?_
      refine OL.q (Y.field L57_0 rfl) rfl ?_
      refine OL.q (Y.load T9 rfl (cellsIs_at0 (rd_at (Ent.at 1 rfl (Up.rd _ _ _ _) row_rd) (mget _ (by assumption))) rfl)) rfl ?_
      refine OL.q (Y.move rfl) rfl ?_
      refine OL.q (Y.eqlS rfl rfl) rfl ?_
      refine OL.q (Y.move rfl) rfl ?_
      refine OL.guard (s := 52) rfl (fun g9_10 => ?_) (fun g9_10 => ?_)
      · have ng9_10 := g9_10
        repeat (first | replace ng9_10 := yes ng9_10 | replace ng9_10 := no ng9_10 | replace ng9_10 := nyes ng9_10 | replace ng9_10 := nno ng9_10)
        refine OL.on g9_10 rfl rfl ?_
        refine OL.q (Y.move rfl) rfl ?_
        refine OL.on g9_10 rfl rfl ?_
        refine OL.q (Y.nilCheck rfl) rfl ?_
        refine OL.on g9_10 rfl rfl ?_
        refine OL.q (Y.field L62_0 rfl) rfl ?_
        refine OL.on g9_10 rfl rfl ?_
        refine OL.q (Y.load T53 rfl (Ent.at 0 rfl (Up.cellIs _ _ _) (blk_cell rfl))) rfl ?_
        refine OL.on g9_10 rfl rfl ?_
        refine OL.q (Y.move rfl) rfl ?_
        refine OL.on g9_10 rfl rfl ?_
        refine OL.q (Y.index Tryd.underlying53 C57 rfl rfl (Ent.at 1 rfl (Up.rd _ _ _ _) row_rd) rfl (by omega)) rfl ?_
        refine OL.on g9_10 rfl rfl ?_
        refine OL.q (Y.field L57_1 rfl) rfl ?_
        refine OL.on g9_10 rfl rfl ?_
        refine OL.q (Y.load T28 rfl (cellsIs_at (rd_at (Ent.at 1 rfl (Up.rd _ _ _ _) row_rd) (mget _ (by assumption))) rfl)) rfl ?_
        refine OL.on g9_10 rfl rfl ?_
        refine OL.q (Y.move rfl) rfl ?_
        refine OL.on g9_10 rfl rfl ?_
        refine OL.call [] (sameInts_any s.a a s.n s.c n c s.args l hsl hrl (by omega)) Tryd.call26 rfl rfl rfl rfl (Ent.and (Ent.frame (Up.rd _ _ _ _) (fun h hs => imm_ent (Up.rd _ _ _ _) (hsr) h (hF h hs))) (Ent.frame (Up.rd _ _ _ _) (fun h hs => imm_ent (Up.rd _ _ _ _) (hrd) h (hF h hs)))) rfl ?_
        rintro _ _ ⟨rfl, rfl⟩
        refine ⟨rfl, rfl, ?_⟩
        refine OL.q (Y.pickT rfl g9_10 rfl) rfl ?_
        refine OL.nil ?_
        refine EX.seq ?_
        refine CW.cond rfl (fun h3 => ?_) (fun h3 => ?_)
        · have bh3 := h3
          repeat (first | replace h3 := yes h3 | replace h3 := no h3 | replace h3 := nyes h3 | replace h3 := nno h3)
          refine CW.seq ?_
          refine CW.region ?_
          refine OL.q (Y.move rfl) rfl ?_
          refine OL.q (Y.assign rfl) rfl ?_
          refine OL.q (Y.assign rfl) rfl ?_
          refine OL.nil ?_
          refine EX.seq ?_
          refine CW.ret ?_
          refine EX.retB ?_
          refine EX.retT ?_
          refine EX.retT ?_
          refine EX.retB ?_
          refine EX.retT ?_
          exact EX.fin2 [0, 1, 2, 3, 4] rfl rfl rfl rfl (.inr (.inl ⟨hb, k, findS_at hp ng9_10 h3 hfk, rfl, rfl⟩))
        · have bh3 := h3
          repeat (first | replace h3 := yes h3 | replace h3 := no h3 | replace h3 := nyes h3 | replace h3 := nno h3)
          refine CW.skip ?_
          refine EX.norB ?_
          refine EX.seq ?_
          refine CW.region ?_
          refine OL.q (Y.move rfl) rfl ?_
          refine OL.q (Y.add1 rfl rfl rfl (by omega)) rfl ?_
          refine OL.q (Y.assign rfl) rfl ?_
          refine OL.nil ?_
          exact EX.next (k + 1) [0, 1, 2, 3, 4] (⟨by omega, by rw [take_snoc hp]; exact findS_snoc hfk (by rintro ⟨e1, e2⟩; first | contradiction | (simp_all; done))⟩) (by first | omega | (dsimp only; omega)) ⟨rfl, rfl, rfl, rfl, trivial⟩ rfl rfl
      · have ng9_10 := g9_10
        repeat (first | replace ng9_10 := yes ng9_10 | replace ng9_10 := no ng9_10 | replace ng9_10 := nyes ng9_10 | replace ng9_10 := nno ng9_10)
        refine OL.no g9_10 rfl rfl rfl ?_
        refine OL.no g9_10 rfl rfl rfl ?_
        refine OL.no g9_10 rfl rfl rfl ?_
        refine OL.no g9_10 rfl rfl rfl ?_
        refine OL.no g9_10 rfl rfl rfl ?_
        refine OL.no g9_10 rfl rfl rfl ?_
        refine OL.no g9_10 rfl rfl rfl ?_
        refine OL.no g9_10 rfl rfl rfl ?_
        refine OL.no g9_10 rfl rfl rfl ?_
        refine OL.no g9_10 rfl rfl rfl ?_
        refine OL.q (Y.pickF rfl g9_10 rfl) rfl ?_
        refine OL.nil ?_
        refine EX.seq ?_
        refine CW.condF rfl (rfl) ?_
        refine CW.skip ?_
        refine EX.norB ?_
        refine EX.seq ?_
        refine CW.region ?_
        refine OL.q (Y.move rfl) rfl ?_
        refine OL.q (Y.add1 rfl rfl rfl (by omega)) rfl ?_
        refine OL.q (Y.assign rfl) rfl ?_
        refine OL.nil ?_
        exact EX.next (k + 1) [0, 1, 2, 3, 4] (⟨by omega, by rw [take_snoc hp]; exact findS_snoc hfk (by rintro ⟨e1, e2⟩; first | contradiction | (simp_all; done))⟩) (by first | omega | (dsimp only; omega)) ⟨rfl, rfl, rfl, rfl, trivial⟩ rfl rfl
    · have bh2 := h2
      repeat (first | replace h2 := yes h2 | replace h2 := no h2 | replace h2 := nyes h2 | replace h2 := nno h2)
      have hkn : k = v.sn := by omega
      subst hkn
      rw [List.take_of_length_le (by rw [hS.sn]; exact Nat.le_refl _)] at hfk
      refine CW.exit ?_
      refine EX.exitT ?_
      refine EX.exitT ?_
      refine EX.exitB ?_
      refine EX.seq ?_
      refine CW.seq ?_
      refine CW.region ?_
      refine OL.q (Y.move rfl) rfl ?_
      refine OL.q (Y.move rfl) rfl ?_
      refine OL.q (Y.nilCheck rfl) rfl ?_
      refine OL.q (Y.field L62_0 rfl) rfl ?_
      refine OL.q (Y.load T53 rfl (Ent.at 0 rfl (Up.cellIs _ _ _) (blk_cell rfl))) rfl ?_
      refine OL.q (Y.move rfl) rfl ?_
      refine OL.q (Y.move rfl) rfl ?_
      refine OL.q (Y.build B57 rfl rfl) rfl ?_
      refine OL.buildSlice ([sortCells ⟨name, a, n, c, l⟩]) Tryd.underlying53 C57 (by decide) rfl (by decide) rfl rfl rfl (fun b73 => ⟨rfl, rfl, ?_⟩)
      refine OL.append [sortCells ⟨name, a, n, c, l⟩] 1 rfl Tryd.underlying53 E57 rfl rfl (Ent.at 5 rfl (Up.rd _ _ _ _) row_rd) rfl (by omega) (by omega) rfl (fun a74 c74 => ⟨rfl, rfl, ?_⟩)
      refine OL.q (Y.nilCheck rfl) rfl ?_
      refine OL.q (Y.field L62_0 rfl) rfl ?_
      refine OL.store 0 rfl C53 rfl rfl rfl rfl rfl ⟨rfl, rfl, ?_⟩
      refine OL.nil ?_
      refine EX.seq ?_
      refine CW.seq ?_
      refine CW.region ?_
      refine OL.q (Y.move rfl) rfl ?_
      refine OL.q (Y.nilCheck rfl) rfl ?_
      refine OL.q (Y.field L62_0 rfl) rfl ?_
      refine OL.q (Y.load T53 rfl (Ent.at 0 rfl (Up.cellIs _ _ _) (blk_cell rfl))) rfl ?_
      refine OL.q (Y.lenSl Tryd.underlying53 rfl) rfl ?_
      refine OL.q (Y.sub rfl rfl (by omega)) rfl ?_
      refine OL.q (Y.assign rfl) rfl ?_
      refine OL.q (Y.assign rfl) rfl ?_
      refine OL.nil ?_
      refine EX.seq ?_
      refine CW.ret ?_
      exact EX.fin2 [0, 1, 2, 3, 4] rfl rfl rfl rfl (.inr (.inr ⟨hb, hfk, a74, c74, by rw [show ((v.sn + 1 : Nat) : Int) - 1 = v.sn by omega], by unfold refL sortPut sortV; rw [List.map_append]; rfl⟩))

theorem rfun_low (r : Nat) (S : DagS) (v : DagV) (M : PH) (hS : RfOk M S v) (name : ByteArray) (a : Option Addr) (n c : Nat) (l : List Int) (res : Int) (hr : rowIn M a n c l) (hn : n ≤ 1000000) (hfn : v.fn < 1000000) :
    FS Tryd.prog 65 [.pointer (some ⟨r, 0, none⟩), funVal ⟨name, a, n, c, l, res⟩] (imm M) [blk r [.slice v.sa v.sn v.sc, .slice v.fa v.fn v.fc, .slice v.ta v.tn v.tc, .slice v.oa v.on v.oc, .int .i64 S.most] 62, row v.sa v.sn v.sc 57 2 (S.sorts.map sortCells), row v.fa v.fn v.fc 38 3 (S.funs.map funCells), row v.ta v.tn v.tc 30 4 (S.terms.map termCells), row v.oa v.on v.oc 3 1 (S.of.map intCells)] (fun q H => ((l.any (bad v.sn) || bad v.sn res) = true ∧ q = .tuple #[.int .i64 0, .int .i64 2] ∧ H = refL r S v) ∨ ((l.any (bad v.sn) || bad v.sn res) = false ∧ ∃ fa fc, q = .tuple #[.int .i64 v.fn, .int .i64 0] ∧ H = refL r (funPut S ⟨name, a, n, c, l, res⟩) (funV v fa fc))) := by
  refine FS.intro (N := 53) Tryd.func65 rfl rfl rfl (fun F w0 hF => ?_)
  have hrd := hr.1
  have hrl := hr.2.2
  have hsm := hS.small
  refine CW.seq ?_
  refine CW.region ?_
  refine OL.box rfl rfl rfl (fun b3 => ⟨rfl, rfl, ?_⟩)
  refine OL.q (Y.assign rfl) rfl ?_
  refine OL.q (Y.assign rfl) rfl ?_
  refine OL.nil ?_
  refine EX.seq ?_
  refine CW.seq ?_
  refine CW.region ?_
  refine OL.q (Y.field L38_2 rfl) rfl ?_
  refine OL.q (Y.load T3 rfl (Ent.at 5 rfl (Up.cellIs _ _ _) (blk_cell rfl))) rfl ?_
  refine OL.buildSlice ([res].map intCells) Tryd.underlying28 C3 (by decide) rfl (by decide) rfl rfl rfl (fun b10 => ⟨rfl, rfl, ?_⟩)
  refine OL.q (Y.field L38_1 rfl) rfl ?_
  refine OL.q (Y.load T28 rfl (Ent.at 5 rfl (Up.cellIs _ _ _) (blk_cell rfl))) rfl ?_
  refine OL.append (l.map intCells) 6 rfl Tryd.underlying28 E3 rfl rfl (Ent.frame (Up.rd _ _ _ _) (fun h hs => imm_ent (Up.rd _ _ _ _) (hrd) h (hF h hs))) (oneRows_map _ (fun _ => rfl) _) (show 1 + n ≤ _ by omega) (show (1 + n) * 8 ≤ _ by omega) rfl (fun a13 c13 => ⟨rfl, rfl, ?_⟩)
  refine OL.q (Y.assign rfl) rfl ?_
  refine OL.nil ?_
  refine EX.seq ?_
  refine CW.seq ?_
  refine CW.seq ?_
  refine CW.region ?_
  refine OL.q (Y.assign rfl) rfl ?_
  refine OL.nil ?_
  refine EX.seq ?_
  refine CW.block ?_
  refine CW.loop (α := Nat) ⟨(fun k => k ≤ 1 + n ∧ ((res :: l).take k).any (bad v.sn) = false), (fun k => [(0, Value.pointer (some { block := r, off := 0 })), (3, Value.pointer (some { block := b3, off := 0 })), (6, Value.slice a13 (1 + n) c13), (7, .int .i64 k)]), (fun k => [blk r [Value.slice v.sa v.sn v.sc, Value.slice v.fa v.fn v.fc, Value.slice v.ta v.tn v.tc, Value.slice v.oa v.on v.oc, Value.int IntKind.i64 ↑S.most] 62, row v.sa v.sn v.sc 57 2 (List.map sortCells S.sorts), row v.fa v.fn v.fc 38 3 (List.map funCells S.funs), row v.ta v.tn v.tc 30 4 (List.map termCells S.terms), row v.oa v.on v.oc 3 1 (List.map intCells S.of), blk b3 (funCells { name := name, a := a, n := n, c := c, args := l, result := res }) 38, row a13 (1 + n) c13 3 1 ((res :: l).map intCells)])⟩
    (fun k => (1 + n - k : Nat)) 0 [0, 1, 2, 3, 4, 5, 6] ⟨Nat.zero_le _, rfl⟩ ⟨rfl, rfl, rfl, rfl, trivial⟩ rfl rfl ?_
  rintro k ⟨hk, hb⟩
  dsimp only at hk hb ⊢
  refine CW.seq ?_
  refine CW.seq ?_
  refine CW.region ?_
  refine OL.q (Y.move rfl) rfl ?_
  refine OL.q (Y.move rfl) rfl ?_
  refine OL.q (Y.lenSl Tryd.underlying28 rfl) rfl ?_
  refine OL.q (Y.lss rfl rfl) rfl ?_
  refine OL.nil ?_
  refine EX.seq ?_
  refine CW.cond rfl (fun h0 => ?_) (fun h0 => ?_)
  · have bh0 := h0
    repeat (first | replace h0 := yes h0 | replace h0 := no h0 | replace h0 := nyes h0 | replace h0 := nno h0)
    obtain ⟨z, hp⟩ : ∃ p, (res :: l)[k]? = some p := ⟨_, List.getElem?_eq_getElem (by simp; omega)⟩
    refine CW.skip ?_
    refine EX.seq ?_
    refine CW.seq ?_
    refine CW.block ?_
    refine CW.seq ?_
    refine CW.drawn [(true, 0), (true, 1), (true, 2), (true, 3), (true, 4), (true, 5), (true, 6), (true, 7), (true, 8), (true, 9), (true, 10), (true, 11), (true, 12), (true, 13), (true, 14), (true, 15), (true, 16)] [] [0, 6] mixed (by kernel_rfl) (by repeat (first | exact PanicOk.body | refine PanicOk.then ?_ | refine PanicOk.block ?_)) (by kernel_rfl) rfl rfl rfl rfl ?_
    refine OL.qt (Y.move rfl) rfl ?_
    refine OL.qt (Y.move rfl) rfl ?_
    refine OL.qt (Y.index Tryd.underlying28 C3 rfl rfl (Ent.at 1 rfl (Up.rd _ _ _ _) row_rd) rfl (by omega)) rfl ?_
    refine OL.qt (Y.load T3 rfl (cellsIs_at0 (rd_at (Ent.at 1 rfl (Up.rd _ _ _ _) row_rd) (mget _ (by assumption))) rfl)) rfl ?_
    refine OL.qt (Y.lss rfl rfl) rfl ?_
    refine OL.qt (Y.move rfl) rfl ?_
    refine OL.guard (s := 25) rfl (fun g5_5 => ?_) (fun g5_5 => ?_)
    · have ng5_5 := g5_5
      repeat (first | replace ng5_5 := yes ng5_5 | replace ng5_5 := no ng5_5 | replace ng5_5 := nyes ng5_5 | replace ng5_5 := nno ng5_5)
      refine OL.tno g5_5 rfl rfl rfl ?_
      refine OL.tno g5_5 rfl rfl rfl ?_
      refine OL.tno g5_5 rfl rfl rfl ?_
      refine OL.tno g5_5 rfl rfl rfl ?_
      refine OL.tno g5_5 rfl rfl rfl ?_
      refine OL.tno g5_5 rfl rfl rfl ?_
      refine OL.tno g5_5 rfl rfl rfl ?_
      refine OL.tno g5_5 rfl rfl rfl ?_
      refine OL.tno g5_5 rfl rfl rfl ?_
      refine OL.tno g5_5 rfl rfl rfl ?_
      refine OL.qt (Y.pickT rfl g5_5 rfl) rfl ?_
      refine OL.nil ?_
      refine EX.tail ?_
      refine OL.nil ?_
      refine EX.seq ?_
      refine CW.condT rfl (rfl) ?_
      refine CW.seq ?_
      refine CW.region ?_
      refine OL.q (Y.assign rfl) rfl ?_
      refine OL.q (Y.assign rfl) rfl ?_
      refine OL.nil ?_
      refine EX.seq ?_
      refine CW.ret ?_
      refine EX.retB ?_
      refine EX.retT ?_
      refine EX.retT ?_
      refine EX.retB ?_
      refine EX.retT ?_
      have hba := any_mem (p := bad v.sn) (mem_of hp) (by unfold bad; simp; omega)
      exact EX.fin2 [0, 1, 2, 3, 4] rfl rfl rfl rfl (.inl ⟨by rw [Bool.or_comm]; simpa using hba, rfl, rfl⟩)
    · have ng5_5 := g5_5
      repeat (first | replace ng5_5 := yes ng5_5 | replace ng5_5 := no ng5_5 | replace ng5_5 := nyes ng5_5 | replace ng5_5 := nno ng5_5)
      refine OL.ont g5_5 rfl rfl ?_
      refine OL.qt (Y.move rfl) rfl ?_
      refine OL.ont g5_5 rfl rfl ?_
      refine OL.qt (Y.move rfl) rfl ?_
      refine OL.ont g5_5 rfl rfl ?_
      refine OL.qt (Y.index Tryd.underlying28 C3 rfl rfl (Ent.at 1 rfl (Up.rd _ _ _ _) row_rd) rfl (by omega)) rfl ?_
      refine OL.ont g5_5 rfl rfl ?_
      refine OL.qt (Y.load T3 rfl (cellsIs_at0 (rd_at (Ent.at 1 rfl (Up.rd _ _ _ _) row_rd) (mget _ (by assumption))) rfl)) rfl ?_
      refine OL.ont g5_5 rfl rfl ?_
      refine OL.qt (Y.move rfl) rfl ?_
      refine OL.ont g5_5 rfl rfl ?_
      refine OL.qt (Y.nilCheck rfl) rfl ?_
      refine OL.ont g5_5 rfl rfl ?_
      refine OL.qt (Y.field L62_0 rfl) rfl ?_
      refine OL.ont g5_5 rfl rfl ?_
      refine OL.qt (Y.load T53 rfl (Ent.at 0 rfl (Up.cellIs _ _ _) (blk_cell rfl))) rfl ?_
      refine OL.ont g5_5 rfl rfl ?_
      refine OL.qt (Y.lenSl Tryd.underlying53 rfl) rfl ?_
      refine OL.ont g5_5 rfl rfl ?_
      refine OL.qt (Y.geq rfl rfl) rfl ?_
      refine OL.qt (Y.pickF rfl g5_5 rfl) rfl ?_
      refine OL.nil ?_
      refine EX.tail ?_
      refine OL.nil ?_
      refine EX.seq ?_
      refine CW.cond rfl (fun h1 => ?_) (fun h1 => ?_)
      · have bh1 := h1
        repeat (first | replace h1 := yes h1 | replace h1 := no h1 | replace h1 := nyes h1 | replace h1 := nno h1)
        refine CW.seq ?_
        refine CW.region ?_
        refine OL.q (Y.assign rfl) rfl ?_
        refine OL.q (Y.assign rfl) rfl ?_
        refine OL.nil ?_
        refine EX.seq ?_
        refine CW.ret ?_
        refine EX.retB ?_
        refine EX.retT ?_
        refine EX.retT ?_
        refine EX.retB ?_
        refine EX.retT ?_
        have hba := any_mem (p := bad v.sn) (mem_of hp) (by unfold bad; simp; omega)
        exact EX.fin2 [0, 1, 2, 3, 4] rfl rfl rfl rfl (.inl ⟨by rw [Bool.or_comm]; simpa using hba, rfl, rfl⟩)
      · have bh1 := h1
        repeat (first | replace h1 := yes h1 | replace h1 := no h1 | replace h1 := nyes h1 | replace h1 := nno h1)
        refine CW.skip ?_
        refine EX.norB ?_
        refine EX.seq ?_
        refine CW.region ?_
        refine OL.q (Y.move rfl) rfl ?_
        refine OL.q (Y.add1 rfl rfl rfl (by omega)) rfl ?_
        refine OL.q (Y.assign rfl) rfl ?_
        refine OL.nil ?_
        exact EX.next (k + 1) [0, 1, 2, 3, 4, 5, 6] (⟨by omega, by rw [any_take hp, hb, bad_false.2 ⟨by omega, by omega⟩]; rfl⟩) (by first | omega | (dsimp only; omega)) ⟨rfl, rfl, rfl, rfl, trivial⟩ rfl rfl
  · have bh0 := h0
    repeat (first | replace h0 := yes h0 | replace h0 := no h0 | replace h0 := nyes h0 | replace h0 := nno h0)
    have hkn : k = 1 + n := by omega
    subst hkn
    rw [List.take_of_length_le (by simp; omega)] at hb
    refine CW.exit ?_
    refine EX.exitT ?_
    refine EX.exitT ?_
    refine EX.exitB ?_
    refine EX.seq ?_
    refine CW.seq ?_
    refine CW.drawn [(true, 0), (true, 1), (true, 2), (true, 3), (true, 4), (true, 5), (false, 6), (false, 7)] [8, 9, 10] [0, 5] mixed (by kernel_rfl) (by repeat (first | exact PanicOk.body | refine PanicOk.then ?_ | refine PanicOk.block ?_)) (by kernel_rfl) rfl rfl rfl rfl ?_
    refine OL.qt (Y.move rfl) rfl ?_
    refine OL.qt (Y.move rfl) rfl ?_
    refine OL.qt (Y.nilCheck rfl) rfl ?_
    refine OL.qt (Y.field L62_1 rfl) rfl ?_
    refine OL.qt (Y.load T55 rfl (Ent.at 0 rfl (Up.cellIs _ _ _) (blk_cell rfl))) rfl ?_
    refine OL.qt (Y.loadN S38 rfl rfl (Ent.at 1 rfl (Up.cellsIs _ _ _) blk_cells)) rfl ?_
    refine OL.buildSlice ([funCells ⟨name, a, n, c, l, res⟩]) Tryd.underlying55 C38 (by decide) rfl (by decide) rfl rfl rfl (fun b43 => ⟨rfl, rfl, ?_⟩)
    refine OL.append [funCells ⟨name, a, n, c, l, res⟩] 2 rfl Tryd.underlying55 E38 rfl rfl (Ent.at 7 rfl (Up.rd _ _ _ _) row_rd) rfl (by omega) (by omega) rfl (fun a44 c44 => ⟨rfl, rfl, ?_⟩)
    refine OL.nil ?_
    refine EX.tail ?_
    refine OL.q (Y.nilCheck rfl) rfl ?_
    refine OL.q (Y.field L62_1 rfl) rfl ?_
    refine OL.store 0 rfl C55 rfl rfl rfl rfl rfl ⟨rfl, rfl, ?_⟩
    refine OL.nil ?_
    refine EX.seq ?_
    refine CW.seq ?_
    refine CW.region ?_
    refine OL.q (Y.move rfl) rfl ?_
    refine OL.q (Y.nilCheck rfl) rfl ?_
    refine OL.q (Y.field L62_1 rfl) rfl ?_
    refine OL.q (Y.load T55 rfl (Ent.at 0 rfl (Up.cellIs _ _ _) (blk_cell rfl))) rfl ?_
    refine OL.q (Y.lenSl Tryd.underlying55 rfl) rfl ?_
    refine OL.q (Y.sub rfl rfl (by omega)) rfl ?_
    refine OL.q (Y.assign rfl) rfl ?_
    refine OL.q (Y.assign rfl) rfl ?_
    refine OL.nil ?_
    refine EX.seq ?_
    refine CW.ret ?_
    exact EX.fin2 [0, 1, 2, 3, 4] rfl rfl rfl rfl (.inr ⟨by rw [Bool.or_comm]; simpa using hb, a44, c44, by rw [show ((v.fn + 1 : Nat) : Int) - 1 = v.fn by omega], by unfold refL funPut funV; rw [List.map_append]; rfl⟩)


/-- What is constant, as the document has it. -/
def ConsOk (S : DagS) : Prop := S.cons.length = S.terms.length ∧ ∀ (k : Nat) (x : TermC), S.terms[k]? = some x → (∀ j ∈ x.kids, 0 ≤ j ∧ j < (k : Int)) ∧ consAt S k = (decide (x.op = 4) || (decide (x.op = 18) && decide (x.kids.length = 1) && consAt S (x.kids.getD 0 0)))


theorem rconst_step (r : Nat) (S : DagS) (v : DagV) (M : PH) (hS : RfOk M S v) (hC : ConsOk S) (k : Nat) (hkl : k < v.tn) (ih : ∀ j : Nat, j < k → FS Tryd.prog 35 [.pointer (some ⟨r, 0, none⟩), .int .i64 j] (fun h => sl (refL r S v) h ∧ le M h) [] (fun q H => q = .bool (consAt S j) ∧ H = [])) :
    FS Tryd.prog 35 [.pointer (some ⟨r, 0, none⟩), .int .i64 k] (fun h => sl (refL r S v) h ∧ le M h) [] (fun q H => q = .bool (consAt S k) ∧ H = []) := by
  refine FS.intro (N := 42) Tryd.func35 rfl rfl rfl (fun F w0 hF => ?_)
  have hF0 := hF
  have hI : Ent F (imm M) := fun h hs => (hF0 h hs).2
  replace hF : Ent F (fun h => sl (refL r S v) h) := fun h hs => (hF0 h hs).1
  obtain ⟨x, hp⟩ : ∃ p, S.terms[k]? = some p := ⟨_, List.getElem?_eq_getElem (by rw [hS.tn]; omega)⟩
  obtain ⟨⟨hxr, hxc, hxl⟩, hxn, hxs⟩ := hS.terms x (mem_of hp)
  obtain ⟨hck, hce⟩ := hC.2 k x hp
  refine CW.seq ?_
  refine CW.region ?_
  refine OL.q (Y.assign rfl) rfl ?_
  refine OL.nil ?_
  refine EX.seq ?_
  refine CW.seq ?_
  refine CW.seq ?_
  refine CW.region ?_
  refine OL.q (Y.move rfl) rfl ?_
  refine OL.q (Y.lss rfl rfl) rfl ?_
  refine OL.q (Y.move rfl) rfl ?_
  refine OL.guard (s := 8) rfl (fun g1_2 => ?_) (fun g1_2 => ?_)
  · have ng1_2 := g1_2
    repeat (first | replace ng1_2 := yes ng1_2 | replace ng1_2 := no ng1_2 | replace ng1_2 := nyes ng1_2 | replace ng1_2 := nno ng1_2)
    exfalso
    first | omega | contradiction | exact absurd rfl ng1_2 | exact absurd ng1_2 (by simp) | exact absurd ng1_2 (by decide)
  · have ng1_2 := g1_2
    repeat (first | replace ng1_2 := yes ng1_2 | replace ng1_2 := no ng1_2 | replace ng1_2 := nyes ng1_2 | replace ng1_2 := nno ng1_2)
    refine OL.on g1_2 rfl rfl ?_
    refine OL.q (Y.move rfl) rfl ?_
    refine OL.on g1_2 rfl rfl ?_
    refine OL.q (Y.move rfl) rfl ?_
    refine OL.on g1_2 rfl rfl ?_
    refine OL.q (Y.nilCheck rfl) rfl ?_
    refine OL.on g1_2 rfl rfl ?_
    refine OL.q (Y.field L62_2 rfl) rfl ?_
    refine OL.on g1_2 rfl rfl ?_
    refine OL.q (Y.load T60 rfl (Ent.via hF (Up.cellIs _ _ _) (Ent.at 0 rfl (Up.cellIs _ _ _) (blk_cell rfl)))) rfl ?_
    refine OL.on g1_2 rfl rfl ?_
    refine OL.q (Y.lenSl Tryd.underlying60 rfl) rfl ?_
    refine OL.on g1_2 rfl rfl ?_
    refine OL.q (Y.geq rfl rfl) rfl ?_
    refine OL.q (Y.pickF rfl g1_2 rfl) rfl ?_
    refine OL.nil ?_
    refine EX.seq ?_
    refine CW.cond rfl (fun h0 => ?_) (fun h0 => ?_)
    · repeat (first | replace h0 := yes h0 | replace h0 := no h0 | replace h0 := nyes h0 | replace h0 := nno h0)
      exfalso
      omega
    repeat (first | replace h0 := yes h0 | replace h0 := no h0 | replace h0 := nyes h0 | replace h0 := nno h0)
    refine CW.skip ?_
    refine EX.seq ?_
    refine CW.seq ?_
    refine CW.region ?_
    refine OL.q (Y.move rfl) rfl ?_
    refine OL.q (Y.nilCheck rfl) rfl ?_
    refine OL.q (Y.field L62_2 rfl) rfl ?_
    refine OL.q (Y.load T60 rfl (Ent.via hF (Up.cellIs _ _ _) (Ent.at 0 rfl (Up.cellIs _ _ _) (blk_cell rfl)))) rfl ?_
    refine OL.q (Y.move rfl) rfl ?_
    refine OL.q (Y.index Tryd.underlying60 C30 rfl rfl (Ent.via hF (Up.rd _ _ _ _) (Ent.at 3 rfl (Up.rd _ _ _ _) row_rd)) rfl (by omega)) rfl ?_
    refine OL.q (Y.loadN S30 rfl rfl (rd_at (Ent.via hF (Up.rd _ _ _ _) (Ent.at 3 rfl (Up.rd _ _ _ _) row_rd)) (mget _ (by assumption)))) rfl ?_
    refine OL.alloc C30 rfl (fun b5 => ⟨rfl, rfl, ?_⟩)
    refine OL.storeAll 0 rfl C30 rfl rfl rfl rfl rfl rfl ⟨rfl, rfl, ?_⟩
    refine OL.nil ?_
    refine EX.seq ?_
    refine CW.seq ?_
    refine CW.seq ?_
    refine CW.region ?_
    refine OL.q (Y.field L30_0 rfl) rfl ?_
    refine OL.q (Y.load T3 rfl (Ent.at 0 rfl (Up.cellIs _ _ _) (blk_cell rfl))) rfl ?_
    refine OL.q (Y.eql rfl rfl) rfl ?_
    refine OL.q (Y.move rfl) rfl ?_
    refine OL.guard (s := 27) rfl (fun g4_3 => ?_) (fun g4_3 => ?_)
    · have ng4_3 := g4_3
      repeat (first | replace ng4_3 := yes ng4_3 | replace ng4_3 := no ng4_3 | replace ng4_3 := nyes ng4_3 | replace ng4_3 := nno ng4_3)
      refine OL.on g4_3 rfl rfl ?_
      refine OL.q (Y.field L30_2 rfl) rfl ?_
      refine OL.on g4_3 rfl rfl ?_
      refine OL.q (Y.load T28 rfl (Ent.at 0 rfl (Up.cellIs _ _ _) (blk_cell rfl))) rfl ?_
      refine OL.on g4_3 rfl rfl ?_
      refine OL.q (Y.lenSl Tryd.underlying28 rfl) rfl ?_
      refine OL.on g4_3 rfl rfl ?_
      refine OL.q (Y.eql rfl rfl) rfl ?_
      refine OL.q (Y.pickT rfl g4_3 rfl) rfl ?_
      refine OL.nil ?_
      refine EX.seq ?_
      refine CW.cond rfl (fun h1 => ?_) (fun h1 => ?_)
      · have bh1 := h1
        repeat (first | replace h1 := yes h1 | replace h1 := no h1 | replace h1 := nyes h1 | replace h1 := nno h1)
        refine CW.seq ?_
        have hx1 : x.n = 1 := by omega
        obtain ⟨z, hq⟩ : ∃ p, x.kids[0]? = some p := ⟨_, List.getElem?_eq_getElem (by omega)⟩
        obtain ⟨hz0, hzk⟩ := hck z (mem_of hq)
        obtain ⟨j, rfl⟩ := Int.eq_ofNat_of_zero_le hz0
        refine CW.region ?_
        refine OL.q (Y.move rfl) rfl ?_
        refine OL.q (Y.field L30_2 rfl) rfl ?_
        refine OL.q (Y.load T28 rfl (Ent.at 0 rfl (Up.cellIs _ _ _) (blk_cell rfl))) rfl ?_
        refine OL.q (Y.index (k := 0) Tryd.underlying28 C3 rfl rfl (Ent.frame (Up.rd _ _ _ _) (fun h hs => imm_ent (Up.rd _ _ _ _) hxr h (hI h hs))) rfl (by omega)) rfl ?_
        refine OL.q (Y.load T3 rfl (cellsIs_at0 (rd_at (Ent.frame (Up.rd _ _ _ _) (fun h hs => imm_ent (Up.rd _ _ _ _) (by assumption) h (hI h hs))) (mget _ (by assumption))) rfl)) rfl ?_
        refine OL.call [] (ih j (by omega)) Tryd.call35 rfl rfl rfl rfl (Ent.frame (Up.and (Up.sl _) (fun _ _ e h => le.trans h e)) hF0) rfl ?_
        rintro _ _ ⟨rfl, rfl⟩
        refine ⟨rfl, rfl, ?_⟩
        refine OL.q (Y.assign rfl) rfl ?_
        refine OL.nil ?_
        refine EX.seq ?_
        refine CW.ret ?_
        refine EX.retT ?_
        exact EX.fin1 [] rfl rfl rfl ⟨by rw [hce, decide_eq_false (show ¬ x.op = 4 by omega), decide_eq_true ng4_3, decide_eq_true (show x.kids.length = 1 by omega), getD_at hq]; rfl, rfl⟩
      · have bh1 := h1
        repeat (first | replace h1 := yes h1 | replace h1 := no h1 | replace h1 := nyes h1 | replace h1 := nno h1)
        refine CW.skip ?_
        refine EX.seq ?_
        refine CW.seq ?_
        refine CW.region ?_
        refine OL.q (Y.field L30_0 rfl) rfl ?_
        refine OL.q (Y.load T3 rfl (Ent.at 0 rfl (Up.cellIs _ _ _) (blk_cell rfl))) rfl ?_
        refine OL.q (Y.eql rfl rfl) rfl ?_
        refine OL.q (Y.assign rfl) rfl ?_
        refine OL.nil ?_
        refine EX.seq ?_
        refine CW.ret ?_
        have e18 : (decide (x.op = 18) && decide (x.kids.length = 1)) = false := by first | (rw [decide_eq_false ng4_3]; rfl) | (rw [decide_eq_false (show ¬ x.kids.length = 1 by omega)]; simp)
        exact EX.fin1 [] rfl rfl rfl ⟨by rw [hce, e18]; simp, rfl⟩
    · have ng4_3 := g4_3
      repeat (first | replace ng4_3 := yes ng4_3 | replace ng4_3 := no ng4_3 | replace ng4_3 := nyes ng4_3 | replace ng4_3 := nno ng4_3)
      refine OL.no g4_3 rfl rfl rfl ?_
      refine OL.no g4_3 rfl rfl rfl ?_
      refine OL.no g4_3 rfl rfl rfl ?_
      refine OL.no g4_3 rfl rfl rfl ?_
      refine OL.q (Y.pickF rfl g4_3 rfl) rfl ?_
      refine OL.nil ?_
      refine EX.seq ?_
      refine CW.condF rfl (rfl) ?_
      refine CW.skip ?_
      refine EX.seq ?_
      refine CW.seq ?_
      refine CW.region ?_
      refine OL.q (Y.field L30_0 rfl) rfl ?_
      refine OL.q (Y.load T3 rfl (Ent.at 0 rfl (Up.cellIs _ _ _) (blk_cell rfl))) rfl ?_
      refine OL.q (Y.eql rfl rfl) rfl ?_
      refine OL.q (Y.assign rfl) rfl ?_
      refine OL.nil ?_
      refine EX.seq ?_
      refine CW.ret ?_
      have e18 : (decide (x.op = 18) && decide (x.kids.length = 1)) = false := by first | (rw [decide_eq_false ng4_3]; rfl) | (rw [decide_eq_false (show ¬ x.kids.length = 1 by omega)]; simp)
      exact EX.fin1 [] rfl rfl rfl ⟨by rw [hce, e18]; simp, rfl⟩


theorem rconst_any (r : Nat) (S : DagS) (v : DagV) (M : PH) (hS : RfOk M S v) (hC : ConsOk S) : ∀ k : Nat, k < v.tn → FS Tryd.prog 35 [.pointer (some ⟨r, 0, none⟩), .int .i64 k] (fun h => sl (refL r S v) h ∧ le M h) [] (fun q H => q = .bool (consAt S k) ∧ H = []) := by
  intro k
  induction k using Nat.strongRecOn with
  | _ k ih => exact fun hk => rconst_step r S v M hS hC k hk fun j hj => ih j hj (by omega)

end Go.Proofs.YtmlnnepgigieaaaDoor
