/- The statements DagBuckets and DagSame. -/
import Derived.Test.YtmlnnepgigieaaaDoorDlawB
namespace Go.Proofs.YtmlnnepgigieaaaDoor
open Go.Sx

theorem B32 : StT Tryd.prog 32 [(0, 1), (1, 1), (2, 1), (3, 1), (4, 4)] [.int .i64 0, .string ⟨#[]⟩, .slice none 0 0, .int .i64 0, .int .i64 0, .int .i64 0, .slice none 0 0, .string ⟨#[]⟩] := StT.of (it := Tryd.t32) (by kernel_rfl) Tryd.underlying32 rfl rfl (by kernel_rfl)


theorem term_len (A : ArP) (x : TermP) : (A.term x).2.2.terms.length ≤ A.terms.length + 1 := by
  unfold ArP.term
  split
  · exact Nat.le_succ _
  · split
    · exact Nat.le_succ _
    · split
      · exact Nat.le_succ _
      · simp [ArP.put]
theorem sort_terms (A : ArP) (name : ByteArray) (l : List Int) : (A.sort name l).2.2.terms = A.terms := by
  unfold ArP.sort
  split
  · rfl
  · split <;> rfl
theorem func_terms (A : ArP) (f : FunP) : (A.func f).2.2.terms = A.terms := by
  unfold ArP.func
  split <;> rfl
theorem act_len (A : ArP) (x : ActP) : (A.act x).terms.length ≤ A.terms.length + 1 := by
  unfold ArP.act
  split
  · rw [sort_terms]; exact Nat.le_succ _
  · split
    · rw [func_terms]; exact Nat.le_succ _
    · exact term_len A x.term
theorem laid_len (m : Int) (l : List ActP) : (laid m l).terms.length ≤ l.length := by
  have key : ∀ (l : List ActP) (A : ArP), (l.foldl ArP.act A).terms.length ≤ A.terms.length + l.length := by
    intro l
    induction l with
    | nil => exact fun A => by simp
    | cons x l ih =>
      intro A
      have h1 := ih (A.act x)
      have h2 := act_len A x
      simp only [List.foldl_cons, List.length_cons]
      omega
  have := key l (ArP.new m)
  simpa [laid, ArP.new] using this
theorem bucks_len {A : ArP} {k : Nat} {l : List Int} (h : A.bucks[k]? = some l) : l.length ≤ A.terms.length := by
  unfold ArP.bucks at h
  rw [List.getElem?_map] at h
  cases hr : (List.range (nb A.terms.length))[k]? with
  | none => rw [hr] at h; cases h
  | some i =>
    rw [hr] at h; cases h
    have := bucketOf_len (nb A.terms.length) (A.terms.map fun x => hashT x.c) i
    simpa using this
theorem bucks_num (A : ArP) : A.bucks.length = nb A.terms.length := by simp [ArP.bucks]


set_option maxRecDepth 10000 in
set_option maxHeartbeats 16000000 in
theorem dagBuckets_any (a : Option Addr) (n c : Nat) (l : List ActC) (M : PH) (hl : rd a n 8 (l.map actCells) M) (hln : l.length = n) (ho : ∀ x ∈ l, x.Ok M) (htab : tabP M) (x : TermC) (hx : x.Ok M) :
    FS Tryd.prog 4 [.slice a n c, termVal x] (imm M) [] (fun q H => q = .bool true ∧ H = []) := by
  refine FS.intro (N := 63) Tryd.func4 rfl rfl rfl (fun F w0 hF => ?_)
  obtain ⟨hxr, hxc, hxl⟩ := hx
  refine CW.seq ?_
  refine CW.region ?_
  refine OL.box rfl rfl rfl (fun b3 => ⟨rfl, rfl, ?_⟩)
  refine OL.q (Y.assign rfl) rfl ?_
  refine OL.nil ?_
  refine EX.seq ?_
  refine CW.seq ?_
  refine CW.seq ?_
  refine CW.region ?_
  refine OL.call [] (speaks_any) Tryd.call13 rfl rfl rfl rfl (Ent.frame Up.tabP (fun h hs => imm_ent Up.tabP htab h (hF h hs))) rfl ?_
  rintro _ _ ⟨rfl, rfl⟩
  refine ⟨rfl, rfl, ?_⟩
  refine OL.q (Y.not rfl) rfl ?_
  refine OL.nil ?_
  refine EX.seq ?_
  refine CW.cond rfl (fun h0 => ?_) (fun h0 => ?_)
  · repeat (first | replace h0 := yes h0 | replace h0 := no h0 | replace h0 := nyes h0 | replace h0 := nno h0)
    exfalso
    first | omega | contradiction | exact absurd rfl h0 | exact absurd h0 (by simp) | exact absurd h0 (by decide)
  repeat (first | replace h0 := yes h0 | replace h0 := no h0 | replace h0 := nyes h0 | replace h0 := nno h0)
  refine CW.skip ?_
  refine EX.seq ?_
  refine CW.seq ?_
  refine CW.seq ?_
  refine CW.region ?_
  refine OL.q (Y.move rfl) rfl ?_
  refine OL.call [] (great_any a n c l hln (lens ho)) Tryd.call14 rfl rfl rfl rfl (Ent.frame (Up.rd _ _ _ _) (fun h hs => imm_ent (Up.rd _ _ _ _) hl h (hF h hs))) rfl ?_
  rintro _ _ ⟨rfl, rfl⟩
  refine ⟨rfl, rfl, ?_⟩
  refine OL.q (Y.move rfl) rfl ?_
  refine OL.guard (s := 15) rfl (fun g3_2 => ?_) (fun g3_2 => ?_)
  · have ng3_2 := g3_2
    repeat (first | replace ng3_2 := yes ng3_2 | replace ng3_2 := no ng3_2 | replace ng3_2 := nyes ng3_2 | replace ng3_2 := nno ng3_2)
    refine OL.no g3_2 rfl rfl rfl ?_
    refine OL.no g3_2 rfl rfl rfl ?_
    refine OL.no g3_2 rfl rfl rfl ?_
    refine OL.no g3_2 rfl rfl rfl ?_
    refine OL.q (Y.pickT rfl g3_2 rfl) rfl ?_
    refine OL.nil ?_
    refine EX.seq ?_
    refine CW.condT rfl (rfl) ?_
    refine CW.seq ?_
    refine CW.region ?_
    refine OL.q (Y.assign rfl) rfl ?_
    refine OL.nil ?_
    refine EX.seq ?_
    refine CW.ret ?_
    refine EX.retT ?_
    exact EX.fin1 [] rfl rfl rfl ⟨rfl, rfl⟩
  · have ng3_2 := g3_2
    repeat (first | replace ng3_2 := yes ng3_2 | replace ng3_2 := no ng3_2 | replace ng3_2 := nyes ng3_2 | replace ng3_2 := nno ng3_2)
    have hg : greatP (l.map ActC.q) = false := g3_2
    refine OL.on g3_2 rfl rfl ?_
    first | refine OL.q (Y.loadN S30 rfl rfl (Ent.at 0 rfl (Up.cellsIs _ _ _) blk_cells)) rfl ?_ | refine OL.q (Y.loadN S30 rfl rfl (Ent.at 1 rfl (Up.cellsIs _ _ _) blk_cells)) rfl ?_ | refine OL.q (Y.loadN S30 rfl rfl (Ent.at 2 rfl (Up.cellsIs _ _ _) blk_cells)) rfl ?_ | refine OL.q (Y.loadN S30 rfl rfl (Ent.at 3 rfl (Up.cellsIs _ _ _) blk_cells)) rfl ?_ | refine OL.q (Y.loadN S30 rfl rfl (Ent.at 4 rfl (Up.cellsIs _ _ _) blk_cells)) rfl ?_ | refine OL.q (Y.loadN S30 rfl rfl (Ent.at 5 rfl (Up.cellsIs _ _ _) blk_cells)) rfl ?_ | refine OL.q (Y.loadN S30 rfl rfl (Ent.at 6 rfl (Up.cellsIs _ _ _) blk_cells)) rfl ?_ | refine OL.q (Y.loadN S30 rfl rfl (rd_at (Ent.at 0 rfl (Up.rd _ _ _ _) row_rd) (mget _ (by assumption)))) rfl ?_ | refine OL.q (Y.loadN S30 rfl rfl (rd_at (Ent.at 1 rfl (Up.rd _ _ _ _) row_rd) (mget _ (by assumption)))) rfl ?_ | refine OL.q (Y.loadN S30 rfl rfl (rd_at (Ent.at 2 rfl (Up.rd _ _ _ _) row_rd) (mget _ (by assumption)))) rfl ?_ | refine OL.q (Y.loadN S30 rfl rfl (rd_at (Ent.at 3 rfl (Up.rd _ _ _ _) row_rd) (mget _ (by assumption)))) rfl ?_ | refine OL.q (Y.loadN S30 rfl rfl (rd_at (Ent.at 4 rfl (Up.rd _ _ _ _) row_rd) (mget _ (by assumption)))) rfl ?_ | refine OL.q (Y.loadN S30 rfl rfl (rd_at (Ent.at 5 rfl (Up.rd _ _ _ _) row_rd) (mget _ (by assumption)))) rfl ?_ | refine OL.q (Y.loadN S30 rfl rfl (rd_at (Ent.at 6 rfl (Up.rd _ _ _ _) row_rd) (mget _ (by assumption)))) rfl ?_
    refine OL.on g3_2 rfl rfl ?_
    refine OL.q (Y.build B32 rfl rfl) rfl ?_
    refine OL.on g3_2 rfl rfl ?_
    refine OL.buildSlice ([actCells ⟨0, ⟨#[]⟩, none, 0, 0, [], 0, x⟩]) Tryd.underlying22 C32 (by decide) rfl (by decide) rfl rfl rfl (fun b18 => ⟨rfl, rfl, ?_⟩)
    refine OL.on g3_2 rfl rfl ?_
    refine OL.call [] (great_any (some ⟨b18, 0, none⟩) 1 1 [⟨0, ⟨#[]⟩, none, 0, 0, [], 0, x⟩] rfl (fun y hy => by rw [List.mem_singleton.1 hy]; exact ⟨rfl, hxl⟩)) Tryd.call14 rfl rfl rfl rfl (Ent.at 1 rfl (Up.rd _ _ _ _) row_rd) rfl ?_
    rintro _ _ ⟨rfl, rfl⟩
    refine ⟨rfl, rfl, ?_⟩
    refine OL.q (Y.pickF rfl g3_2 rfl) rfl ?_
    refine OL.nil ?_
    refine EX.seq ?_
    refine CW.cond rfl (fun h1 => ?_) (fun h1 => ?_)
    · have bh1 := h1
      repeat (first | replace h1 := yes h1 | replace h1 := no h1 | replace h1 := nyes h1 | replace h1 := nno h1)
      refine CW.seq ?_
      refine CW.region ?_
      refine OL.q (Y.assign rfl) rfl ?_
      refine OL.nil ?_
      refine EX.seq ?_
      refine CW.ret ?_
      refine EX.retT ?_
      exact EX.fin1 [] rfl rfl rfl ⟨rfl, rfl⟩
    · have bh1 := h1
      repeat (first | replace h1 := yes h1 | replace h1 := no h1 | replace h1 := nyes h1 | replace h1 := nno h1)
      have hg2 : greatP ([(⟨0, ⟨#[]⟩, none, 0, 0, [], 0, x⟩ : ActC)].map ActC.q) = false := h1
      obtain ⟨_, _, _, hx3, hx4⟩ := small_act (k := 0) hg2 rfl
      have hl80 := small_len hg
      have hx3 : x.kids.length ≤ 12 := hx3
      have hx4 : x.num.size ≤ 60 := hx4
      refine CW.skip ?_
      refine EX.seq ?_
      refine CW.seq ?_
      refine CW.drop (H' := [blk b3 (termCells x) 30]) [0] rfl rfl ?_
      refine CW.region ?_
      refine OL.q (Y.move rfl) rfl ?_
      refine OL.call [] (laid_any 1000 a n c l M hl hln ho hg htab) Tryd.call21 rfl rfl rfl rfl (Ent.frame (fun _ _ e h => le.trans h e) hF) rfl ?_
      rintro _ _ ⟨t, r, rfl, rfl⟩
      refine ⟨rfl, rfl, ?_⟩
      refine OL.q (Y.move rfl) rfl ?_
      refine OL.q (Y.extract rfl rfl) rfl ?_
      refine OL.q (Y.extract rfl rfl) rfl ?_
      refine OL.q (Y.extract rfl rfl) rfl ?_
      refine OL.q (Y.assign rfl) rfl ?_
      refine OL.q (Y.assign rfl) rfl ?_
      refine OL.q (Y.assign rfl) rfl ?_
      refine OL.nil ?_
      refine EX.seq ?_
      refine CW.seq ?_
      have hAl := laid_len 1000 (l.map ActC.q)
      rw [List.length_map] at hAl
      generalize laid 1000 (l.map ActC.q) = A at hAl ⊢
      have hnbl := nb_le A.terms.length
      refine CW.region ?_
      refine OL.q (Y.move rfl) rfl ?_
      refine OL.call [] (Buckets_w t A) Tryd.call22 rfl rfl rfl rfl (Ent.at 1 rfl (Up.arena _ _) (fun _ h => h)) rfl ?_
      rintro _ _ ⟨ba, bc, bs, M2, rfl, hbl, hbr, rfl⟩
      refine ⟨rfl, rfl, ?_⟩
      refine OL.q (Y.move rfl) rfl ?_
      refine OL.call [] (rBuckets_w r A M) Tryd.call23 rfl rfl rfl rfl (Ent.and (Ent.at 2 rfl (Up.rarena _ _ _) (fun _ h => h)) (Ent.frame (fun _ _ e h => le.trans h e) hF)) rfl ?_
      rintro _ _ ⟨ba2, bc2, B, rfl, hBl, rfl⟩
      refine ⟨rfl, rfl, ?_⟩
      refine OL.q (Y.assign rfl) rfl ?_
      refine OL.q (Y.assign rfl) rfl ?_
      refine OL.nil ?_
      refine EX.seq ?_
      refine CW.seq ?_
      refine CW.seq ?_
      refine CW.drawn [(true, 0), (true, 1), (true, 2), (true, 3), (true, 4), (true, 5), (true, 6), (true, 7), (true, 8), (true, 9), (true, 10), (true, 12), (false, 11), (false, 13), (true, 14), (true, 15)] [] [0] mixed (by kernel_rfl) (by repeat (first | exact PanicOk.body | refine PanicOk.then ?_ | refine PanicOk.block ?_)) (by kernel_rfl) rfl rfl rfl rfl ?_
      refine OL.qt (Y.move rfl) rfl ?_
      refine OL.qt (Y.not rfl) rfl ?_
      refine OL.qt (Y.move rfl) rfl ?_
      refine OL.guard (s := 33) rfl (fun g7_2 => ?_) (fun g7_2 => ?_)
      · have ng7_2 := g7_2
        repeat (first | replace ng7_2 := yes ng7_2 | replace ng7_2 := no ng7_2 | replace ng7_2 := nyes ng7_2 | replace ng7_2 := nno ng7_2)
        exfalso
        first | omega | contradiction | exact absurd rfl ng7_2 | exact absurd ng7_2 (by simp) | exact absurd ng7_2 (by decide)
      · have ng7_2 := g7_2
        repeat (first | replace ng7_2 := yes ng7_2 | replace ng7_2 := no ng7_2 | replace ng7_2 := nyes ng7_2 | replace ng7_2 := nno ng7_2)
        refine OL.ont g7_2 rfl rfl ?_
        refine OL.qt (Y.move rfl) rfl ?_
        refine OL.ont g7_2 rfl rfl ?_
        refine OL.qt (Y.lenSl Tryd.underlying47 rfl) rfl ?_
        refine OL.ont g7_2 rfl rfl ?_
        refine OL.qt (Y.move rfl) rfl ?_
        refine OL.ont g7_2 rfl rfl ?_
        refine OL.qt (Y.lenSl Tryd.underlying47 rfl) rfl ?_
        refine OL.ont g7_2 rfl rfl ?_
        refine OL.qt (Y.neq rfl rfl) rfl ?_
        refine OL.qt (Y.pickF rfl g7_2 rfl) rfl ?_
        refine OL.qt (Y.move rfl) rfl ?_
        refine OL.guard (s := 40) rfl (fun g7_9 => ?_) (fun g7_9 => ?_)
        · have ng7_9 := g7_9
          repeat (first | replace ng7_9 := yes ng7_9 | replace ng7_9 := no ng7_9 | replace ng7_9 := nyes ng7_9 | replace ng7_9 := nno ng7_9)
          exfalso
          exact ng7_9 rfl
        · have ng7_9 := g7_9
          repeat (first | replace ng7_9 := yes ng7_9 | replace ng7_9 := no ng7_9 | replace ng7_9 := nyes ng7_9 | replace ng7_9 := nno ng7_9)
          refine OL.ont g7_9 rfl rfl ?_
          first | refine OL.qt (Y.loadN S30 rfl rfl (Ent.at 0 rfl (Up.cellsIs _ _ _) blk_cells)) rfl ?_ | refine OL.qt (Y.loadN S30 rfl rfl (Ent.at 1 rfl (Up.cellsIs _ _ _) blk_cells)) rfl ?_ | refine OL.qt (Y.loadN S30 rfl rfl (Ent.at 2 rfl (Up.cellsIs _ _ _) blk_cells)) rfl ?_ | refine OL.qt (Y.loadN S30 rfl rfl (Ent.at 3 rfl (Up.cellsIs _ _ _) blk_cells)) rfl ?_ | refine OL.qt (Y.loadN S30 rfl rfl (Ent.at 4 rfl (Up.cellsIs _ _ _) blk_cells)) rfl ?_ | refine OL.qt (Y.loadN S30 rfl rfl (Ent.at 5 rfl (Up.cellsIs _ _ _) blk_cells)) rfl ?_ | refine OL.qt (Y.loadN S30 rfl rfl (Ent.at 6 rfl (Up.cellsIs _ _ _) blk_cells)) rfl ?_ | refine OL.qt (Y.loadN S30 rfl rfl (rd_at (Ent.at 0 rfl (Up.rd _ _ _ _) row_rd) (mget _ (by assumption)))) rfl ?_ | refine OL.qt (Y.loadN S30 rfl rfl (rd_at (Ent.at 1 rfl (Up.rd _ _ _ _) row_rd) (mget _ (by assumption)))) rfl ?_ | refine OL.qt (Y.loadN S30 rfl rfl (rd_at (Ent.at 2 rfl (Up.rd _ _ _ _) row_rd) (mget _ (by assumption)))) rfl ?_ | refine OL.qt (Y.loadN S30 rfl rfl (rd_at (Ent.at 3 rfl (Up.rd _ _ _ _) row_rd) (mget _ (by assumption)))) rfl ?_ | refine OL.qt (Y.loadN S30 rfl rfl (rd_at (Ent.at 4 rfl (Up.rd _ _ _ _) row_rd) (mget _ (by assumption)))) rfl ?_ | refine OL.qt (Y.loadN S30 rfl rfl (rd_at (Ent.at 5 rfl (Up.rd _ _ _ _) row_rd) (mget _ (by assumption)))) rfl ?_ | refine OL.qt (Y.loadN S30 rfl rfl (rd_at (Ent.at 6 rfl (Up.rd _ _ _ _) row_rd) (mget _ (by assumption)))) rfl ?_
          refine OL.ont g7_9 rfl rfl ?_
          first | refine OL.qt (Y.loadN S30 rfl rfl (Ent.at 0 rfl (Up.cellsIs _ _ _) blk_cells)) rfl ?_ | refine OL.qt (Y.loadN S30 rfl rfl (Ent.at 1 rfl (Up.cellsIs _ _ _) blk_cells)) rfl ?_ | refine OL.qt (Y.loadN S30 rfl rfl (Ent.at 2 rfl (Up.cellsIs _ _ _) blk_cells)) rfl ?_ | refine OL.qt (Y.loadN S30 rfl rfl (Ent.at 3 rfl (Up.cellsIs _ _ _) blk_cells)) rfl ?_ | refine OL.qt (Y.loadN S30 rfl rfl (Ent.at 4 rfl (Up.cellsIs _ _ _) blk_cells)) rfl ?_ | refine OL.qt (Y.loadN S30 rfl rfl (Ent.at 5 rfl (Up.cellsIs _ _ _) blk_cells)) rfl ?_ | refine OL.qt (Y.loadN S30 rfl rfl (Ent.at 6 rfl (Up.cellsIs _ _ _) blk_cells)) rfl ?_ | refine OL.qt (Y.loadN S30 rfl rfl (rd_at (Ent.at 0 rfl (Up.rd _ _ _ _) row_rd) (mget _ (by assumption)))) rfl ?_ | refine OL.qt (Y.loadN S30 rfl rfl (rd_at (Ent.at 1 rfl (Up.rd _ _ _ _) row_rd) (mget _ (by assumption)))) rfl ?_ | refine OL.qt (Y.loadN S30 rfl rfl (rd_at (Ent.at 2 rfl (Up.rd _ _ _ _) row_rd) (mget _ (by assumption)))) rfl ?_ | refine OL.qt (Y.loadN S30 rfl rfl (rd_at (Ent.at 3 rfl (Up.rd _ _ _ _) row_rd) (mget _ (by assumption)))) rfl ?_ | refine OL.qt (Y.loadN S30 rfl rfl (rd_at (Ent.at 4 rfl (Up.rd _ _ _ _) row_rd) (mget _ (by assumption)))) rfl ?_ | refine OL.qt (Y.loadN S30 rfl rfl (rd_at (Ent.at 5 rfl (Up.rd _ _ _ _) row_rd) (mget _ (by assumption)))) rfl ?_ | refine OL.qt (Y.loadN S30 rfl rfl (rd_at (Ent.at 6 rfl (Up.rd _ _ _ _) row_rd) (mget _ (by assumption)))) rfl ?_
          refine OL.on g7_9 rfl rfl ?_
          refine OL.call [] (hash_any x ⟨hxl, by omega⟩ (by omega)) Tryd.call24 rfl rfl rfl rfl (Ent.frame (Up.rd _ _ _ _) (fun h hs => imm_ent (Up.rd _ _ _ _) hxr h (hF h hs))) rfl ?_
          rintro _ _ ⟨rfl, rfl⟩
          refine ⟨rfl, rfl, ?_⟩
          refine OL.on g7_9 rfl rfl ?_
          refine OL.call [] (rhash_any x ⟨hxl, by omega⟩ (by omega)) Tryd.call25 rfl rfl rfl rfl (Ent.frame (Up.rd _ _ _ _) (fun h hs => imm_ent (Up.rd _ _ _ _) hxr h (hF h hs))) rfl ?_
          rintro _ _ ⟨rfl, rfl⟩
          refine ⟨rfl, rfl, ?_⟩
          refine OL.ont g7_9 rfl rfl ?_
          refine OL.qt (Y.neq rfl rfl) rfl ?_
          refine OL.qt (Y.pickF rfl g7_9 rfl) rfl ?_
          refine OL.nil ?_
          refine EX.tail ?_
          refine OL.nil ?_
          refine EX.seq ?_
          refine CW.cond rfl (fun h2 => ?_) (fun h2 => ?_)
          · repeat (first | replace h2 := yes h2 | replace h2 := no h2 | replace h2 := nyes h2 | replace h2 := nno h2)
            exfalso
            exact h2 rfl
          repeat (first | replace h2 := yes h2 | replace h2 := no h2 | replace h2 := nyes h2 | replace h2 := nno h2)
          refine CW.skip ?_
          refine EX.seq ?_
          refine CW.seq ?_
          refine CW.seq ?_
          refine CW.region ?_
          refine OL.q (Y.move rfl) rfl ?_
          refine OL.q (Y.lenSl Tryd.underlying47 rfl) rfl ?_
          refine OL.q (Y.move rfl) rfl ?_
          refine OL.nil ?_
          refine EX.seq ?_
          refine CW.block ?_
          refine CW.loop (α := Nat) ⟨(fun k => k ≤ nb A.terms.length), (fun k => [(8, Value.slice ba (nb A.terms.length) bc), (9, Value.slice ba2 (nb A.terms.length) bc2), (48, Value.int IntKind.i64 ↑(nb A.terms.length)), (49, .int .i64 k)]), (fun k => [blk b3 (termCells x) 30, arena t A, rarena r A M, row ba (nb A.terms.length) bc 28 1 (List.map buckCells bs), imm M2, row ba2 (nb A.terms.length) bc2 28 1 (List.map buckCells B), star (List.map buckRow B)])⟩
            (fun k => (nb A.terms.length - k : Nat)) 0 [0, 1, 2, 3, 4, 5, 6] (Nat.zero_le _) ⟨rfl, rfl, rfl, rfl, trivial⟩ rfl rfl ?_
          rintro k hk
          dsimp only at hk ⊢
          refine CW.seq ?_
          refine CW.region ?_
          refine OL.q (Y.lss rfl rfl) rfl ?_
          refine OL.nil ?_
          refine EX.seq ?_
          refine CW.seq ?_
          refine CW.cond rfl (fun h3 => ?_) (fun h3 => ?_)
          · have bh3 := h3
            repeat (first | replace h3 := yes h3 | replace h3 := no h3 | replace h3 := nyes h3 | replace h3 := nno h3)
            obtain ⟨u, hu⟩ : ∃ p, bs[k]? = some p := ⟨_, List.getElem?_eq_getElem (by have h9 := congrArg List.length hbl; rw [List.length_map, bucks_num] at h9; omega)⟩
            obtain ⟨w, hw⟩ : ∃ p, B[k]? = some p := ⟨_, List.getElem?_eq_getElem (by have h9 := congrArg List.length hBl; rw [List.length_map, bucks_num] at h9; omega)⟩
            have hul : A.bucks[k]? = some u.l := by rw [← hbl]; exact mget BuckC.l hu
            have hwl : A.bucks[k]? = some w.l := by rw [← hBl]; exact mget BuckC.l hw
            have huw : u.l = w.l := Option.some.inj (hul.symm.trans hwl)
            have hlen := bucks_len hul
            obtain ⟨hur, huc, hun⟩ := hbr u (mem_of hu)
            refine CW.learn (p := w.l.length = w.n) (fun h hs => by
              have := (Ent.at 6 rfl (Up.rd _ _ _ _) (star_one ((nth_eq _ _).trans (mget buckRow hw)) (Up.rd _ _ _ _) row_rd)) h hs
              simpa using this.1) (fun hwn => ?_)
            refine CW.skip ?_
            refine EX.seq ?_
            refine CW.seq ?_
            refine CW.block ?_
            refine CW.seq ?_
            refine CW.region ?_
            refine OL.q (Y.move rfl) rfl ?_
            refine OL.q (Y.assign rfl) rfl ?_
            refine OL.nil ?_
            refine EX.seq ?_
            refine CW.seq ?_
            refine CW.drawn [(true, 0), (true, 1), (true, 2), (true, 3), (true, 4), (true, 5), (true, 6), (true, 7), (false, 8), (true, 9)] [] [3, 5] mixed (by kernel_rfl) (by repeat (first | exact PanicOk.body | refine PanicOk.then ?_ | refine PanicOk.block ?_)) (by kernel_rfl) rfl rfl rfl rfl ?_
            refine OL.qt (Y.move rfl) rfl ?_
            refine OL.qt (Y.move rfl) rfl ?_
            refine OL.qt (Y.index (k := k) Tryd.underlying47 C28 rfl rfl (Ent.at 0 rfl (Up.rd _ _ _ _) row_rd) rfl (by omega)) rfl ?_
            refine OL.qt (Y.load T28 rfl (cellsIs_at0 (rd_at (Ent.at 0 rfl (Up.rd _ _ _ _) row_rd) (mget buckCells hu)) rfl)) rfl ?_
            refine OL.qt (Y.move rfl) rfl ?_
            refine OL.qt (Y.move rfl) rfl ?_
            refine OL.qt (Y.index (k := k) Tryd.underlying47 C28 rfl rfl (Ent.at 1 rfl (Up.rd _ _ _ _) row_rd) rfl (by omega)) rfl ?_
            refine OL.qt (Y.load T28 rfl (cellsIs_at0 (rd_at (Ent.at 1 rfl (Up.rd _ _ _ _) row_rd) (mget buckCells hw)) rfl)) rfl ?_
            refine OL.call [] (sameInts_any u.a w.a u.n u.c w.n w.c u.l w.l hun hwn (by omega)) Tryd.call26 rfl rfl rfl rfl (Ent.and (Ent.at 4 rfl (Up.rd _ _ _ _) (imm_ent (Up.rd _ _ _ _) hur)) (Ent.at 6 rfl (Up.rd _ _ _ _) (star_one ((nth_eq _ _).trans (mget buckRow hw)) (Up.rd _ _ _ _) row_rd))) rfl ?_
            rw [decide_eq_true huw]
            rintro _ _ ⟨rfl, rfl⟩
            refine ⟨rfl, rfl, ?_⟩
            refine OL.qt (Y.not rfl) rfl ?_
            refine OL.nil ?_
            refine EX.tail ?_
            refine OL.nil ?_
            refine EX.seq ?_
            refine CW.cond rfl (fun h4 => ?_) (fun h4 => ?_)
            · repeat (first | replace h4 := yes h4 | replace h4 := no h4 | replace h4 := nyes h4 | replace h4 := nno h4)
              exfalso
              first | omega | contradiction | exact absurd rfl h4 | exact absurd h4 (by simp) | exact absurd h4 (by decide)
            repeat (first | replace h4 := yes h4 | replace h4 := no h4 | replace h4 := nyes h4 | replace h4 := nno h4)
            refine CW.skip ?_
            refine EX.norB ?_
            refine EX.seq ?_
            refine CW.region ?_
            first | refine OL.q (Y.add1 rfl rfl rfl (by omega)) rfl ?_ | refine OL.q (Y.addN rfl rfl (by omega)) rfl ?_ | refine OL.q (Y.add rfl rfl (by omega)) rfl ?_
            refine OL.q (Y.move rfl) rfl ?_
            refine OL.nil ?_
            exact EX.next (k + 1) [0, 1, 2, 3, 4, 5, 6] (by first | omega | (dsimp only; omega)) (by first | omega | (dsimp only; omega)) ⟨rfl, rfl, rfl, rfl, trivial⟩ rfl rfl
          · have bh3 := h3
            repeat (first | replace h3 := yes h3 | replace h3 := no h3 | replace h3 := nyes h3 | replace h3 := nno h3)
            refine CW.exit ?_
            refine EX.exitT ?_
            refine EX.exitT ?_
            refine EX.exitB ?_
            refine EX.seq ?_
            refine CW.seq ?_
            refine CW.region ?_
            refine OL.q (Y.assign rfl) rfl ?_
            refine OL.nil ?_
            refine EX.seq ?_
            refine CW.ret ?_
            exact EX.fin1 [] rfl rfl rfl ⟨rfl, rfl⟩
end Go.Proofs.YtmlnnepgigieaaaDoor
