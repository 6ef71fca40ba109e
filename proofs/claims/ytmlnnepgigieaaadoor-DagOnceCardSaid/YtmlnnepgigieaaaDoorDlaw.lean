/- The functions that the statements of layer 6 share: speaks, Great, sorts, funs, Laid. -/
import Derived.Test.YtmlnnepgigieaaaDoorDrefF
namespace Go.Proofs.YtmlnnepgigieaaaDoor
open Go.Sx

theorem S32 : TyN Tryd.prog 32 8 [.int .i64 0, .string ⟨#[]⟩, .slice none 0 0, .int .i64 0, .int .i64 0, .int .i64 0, .slice none 0 0, .string ⟨#[]⟩] := ⟨Tryd.isAgg32, Tryd.sizeOf32, Tryd.zeroValue32, rfl⟩
theorem C32 : TyC Tryd.prog 32 8 [.int .i64 0, .string ⟨#[]⟩, .slice none 0 0, .int .i64 0, .int .i64 0, .int .i64 0, .slice none 0 0, .string ⟨#[]⟩] := S32.c
theorem L32_0 : Fld Tryd.prog 32 0 0 := ⟨⟨_, Tryd.underlying32, _, rfl, rfl, 1, by decide, Tryd.sizeOf3⟩⟩
theorem L32_1 : Fld Tryd.prog 32 1 1 := ⟨⟨_, Tryd.underlying32, _, rfl, rfl, 1, by decide, Tryd.sizeOf9⟩⟩
theorem L32_2 : Fld Tryd.prog 32 2 2 := ⟨⟨_, Tryd.underlying32, _, rfl, rfl, 1, by decide, Tryd.sizeOf28⟩⟩
theorem L32_3 : Fld Tryd.prog 32 3 3 := ⟨⟨_, Tryd.underlying32, _, rfl, rfl, 1, by decide, Tryd.sizeOf3⟩⟩
theorem L32_4 : Fld Tryd.prog 32 4 4 := ⟨⟨_, Tryd.underlying32, _, rfl, rfl, 4, by decide, Tryd.sizeOf30⟩⟩
theorem L38_0 : Fld Tryd.prog 38 0 0 := ⟨⟨_, Tryd.underlying38, _, rfl, rfl, 1, by decide, Tryd.sizeOf9⟩⟩
theorem B38 : StT Tryd.prog 38 [(0, 1), (1, 1), (2, 1)] [.string ⟨#[]⟩, .slice none 0 0, .int .i64 0] := StT.of (it := Tryd.t38) (by kernel_rfl) Tryd.underlying38 rfl rfl (by kernel_rfl)


theorem great_at {l : List ActP} {k : Nat} {x : ActP} (h : l[k]? = some x) (hx : x.great = true) : greatP l = true := by
  unfold greatP
  rw [any_mem (mem_of h) hx, Bool.or_true]
theorem great_no {l : List ActP} (h1 : ¬ 80 < l.length) (h2 : l.any ActP.great = false) : greatP l = false := by
  unfold greatP
  rw [decide_eq_false h1, h2]; rfl


theorem great_any (a : Option Addr) (n c : Nat) (l : List ActC) (hl : l.length = n) (ho : ∀ x ∈ l, x.args.length = x.n ∧ x.term.kids.length = x.term.n) :
    FS Tryd.prog 14 [.slice a n c] (rd a n 8 (l.map actCells)) [] (fun q H => q = .bool (greatP (l.map ActC.q)) ∧ H = []) := by
  refine FS.intro (N := 39) Tryd.func14 rfl rfl rfl (fun F w0 hF => ?_)
  refine CW.seq ?_
  refine CW.region ?_
  refine OL.q (Y.assign rfl) rfl ?_
  refine OL.nil ?_
  refine EX.seq ?_
  refine CW.seq ?_
  refine CW.seq ?_
  refine CW.region ?_
  refine OL.q (Y.move rfl) rfl ?_
  refine OL.q (Y.lenSl Tryd.underlying22 rfl) rfl ?_
  refine OL.q (Y.gtr rfl rfl) rfl ?_
  refine OL.nil ?_
  refine EX.seq ?_
  refine CW.cond rfl (fun h0 => ?_) (fun h0 => ?_)
  · have bh0 := h0
    repeat (first | replace h0 := yes h0 | replace h0 := no h0 | replace h0 := nyes h0 | replace h0 := nno h0)
    refine CW.seq ?_
    refine CW.region ?_
    refine OL.q (Y.assign rfl) rfl ?_
    refine OL.nil ?_
    refine EX.seq ?_
    refine CW.ret ?_
    refine EX.retT ?_
    exact EX.fin1 [] rfl rfl rfl ⟨by rw [show greatP (l.map ActC.q) = true by unfold greatP; rw [decide_eq_true (show 80 < (l.map ActC.q).length by simp; omega)]; rfl], rfl⟩
  · have bh0 := h0
    repeat (first | replace h0 := yes h0 | replace h0 := no h0 | replace h0 := nyes h0 | replace h0 := nno h0)
    refine CW.skip ?_
    refine EX.seq ?_
    refine CW.seq ?_
    refine CW.seq ?_
    refine CW.region ?_
    refine OL.q (Y.move rfl) rfl ?_
    refine OL.q (Y.lenSl Tryd.underlying22 rfl) rfl ?_
    refine OL.q (Y.move rfl) rfl ?_
    refine OL.nil ?_
    refine EX.seq ?_
    refine CW.block ?_
    refine CW.loop (α := Nat) ⟨(fun k => k ≤ n ∧ ((l.map ActC.q).take k).any ActP.great = false), (fun k => [(8, Value.slice a n c), (9, Value.int IntKind.i64 ↑n), (10, .int .i64 k)]), (fun k => [])⟩
      (fun k => (n - k : Nat)) 0 [] ⟨Nat.zero_le _, rfl⟩ ⟨rfl, rfl, rfl, trivial⟩ rfl rfl ?_
    rintro k ⟨hk, hb⟩
    dsimp only at hk hb ⊢
    refine CW.seq ?_
    refine CW.region ?_
    refine OL.q (Y.lss rfl rfl) rfl ?_
    refine OL.nil ?_
    refine EX.seq ?_
    refine CW.seq ?_
    refine CW.cond rfl (fun h1 => ?_) (fun h1 => ?_)
    · have bh1 := h1
      repeat (first | replace h1 := yes h1 | replace h1 := no h1 | replace h1 := nyes h1 | replace h1 := nno h1)
      obtain ⟨x, hp⟩ : ∃ p, l[k]? = some p := ⟨_, List.getElem?_eq_getElem (by omega)⟩
      obtain ⟨hxa, hxk⟩ := ho x (mem_of hp)
      refine CW.skip ?_
      refine EX.seq ?_
      refine CW.seq ?_
      refine CW.block ?_
      refine CW.seq ?_
      refine CW.region ?_
      refine OL.q (Y.index Tryd.underlying22 C32 rfl rfl (Ent.frame (Up.rd _ _ _ _) hF) rfl (by omega)) rfl ?_
      refine OL.q (Y.loadN S32 rfl rfl (rd_at (Ent.frame (Up.rd _ _ _ _) hF) (mget _ (by assumption)))) rfl ?_
      refine OL.alloc C32 rfl (fun b4 => ⟨rfl, rfl, ?_⟩)
      refine OL.storeAll 0 rfl C32 rfl rfl rfl rfl rfl rfl ⟨rfl, rfl, ?_⟩
      refine OL.nil ?_
      refine EX.seq ?_
      refine CW.seq ?_
      refine CW.region ?_
      refine OL.cutAt (α := Bool) 24 ⟨(fun z => z = x.q.great), (fun z => [(8, Value.slice a n c), (9, Value.int IntKind.i64 ↑n), (10, Value.int IntKind.i64 ↑k), (37, .bool z)]), (fun z => [blk b4 (setR [Value.int IntKind.i64 0, Value.string { data := #[] }, Value.slice none 0 0, Value.int IntKind.i64 0, Value.int IntKind.i64 0, Value.int IntKind.i64 0, Value.slice none 0 0, Value.string { data := #[] }] 0 (actCells x)) 32])⟩ ?_ ?_
      ·
        refine OL.q (Y.field L32_1 rfl) rfl ?_
        refine OL.q (Y.load T9 rfl (Ent.at 0 rfl (Up.cellIs _ _ _) (blk_cell rfl))) rfl ?_
        refine OL.q (Y.lenStr Tryd.underlying9 rfl) rfl ?_
        refine OL.q (Y.gtr rfl rfl) rfl ?_
        refine OL.q (Y.move rfl) rfl ?_
        refine OL.guard (s := 18) rfl (fun g6_4 => ?_) (fun g6_4 => ?_)
        · have ng6_4 := g6_4
          repeat (first | replace ng6_4 := yes ng6_4 | replace ng6_4 := no ng6_4 | replace ng6_4 := nyes ng6_4 | replace ng6_4 := nno ng6_4)
          refine OL.no g6_4 rfl rfl rfl ?_
          refine OL.no g6_4 rfl rfl rfl ?_
          refine OL.no g6_4 rfl rfl rfl ?_
          refine OL.no g6_4 rfl rfl rfl ?_
          refine OL.q (Y.pickT rfl g6_4 rfl) rfl ?_
          refine OL.q (Y.move rfl) rfl ?_
          have g6_10 : true = true := rfl
          refine OL.no g6_10 rfl rfl rfl ?_
          refine OL.no g6_10 rfl rfl rfl ?_
          refine OL.no g6_10 rfl rfl rfl ?_
          refine OL.no g6_10 rfl rfl rfl ?_
          refine OL.no g6_10 rfl rfl rfl ?_
          refine OL.q (Y.pickT rfl g6_10 rfl) rfl ?_
          refine OL.q (Y.move rfl) rfl ?_
          have g6_17 : true = true := rfl
          refine OL.no g6_17 rfl rfl rfl ?_
          refine OL.no g6_17 rfl rfl rfl ?_
          refine OL.no g6_17 rfl rfl rfl ?_
          refine OL.no g6_17 rfl rfl rfl ?_
          refine OL.no g6_17 rfl rfl rfl ?_
          refine OL.q (Y.pickT rfl g6_17 rfl) rfl ?_
          refine OL.nil ?_
          exact EX.meet _ [0] (by dsimp only; unfold ActP.great ActC.q TermC.q; dsimp only; rw [hxa, hxk]; rw [Bool.eq_iff_iff]; simp only [Bool.or_eq_true, decide_eq_true_eq]; first | omega | (simp; omega)) ⟨rfl, rfl, rfl, rfl, trivial⟩ rfl rfl
        · have ng6_4 := g6_4
          repeat (first | replace ng6_4 := yes ng6_4 | replace ng6_4 := no ng6_4 | replace ng6_4 := nyes ng6_4 | replace ng6_4 := nno ng6_4)
          refine OL.on g6_4 rfl rfl ?_
          refine OL.q (Y.field L32_2 rfl) rfl ?_
          refine OL.on g6_4 rfl rfl ?_
          refine OL.q (Y.load T28 rfl (Ent.at 0 rfl (Up.cellIs _ _ _) (blk_cell rfl))) rfl ?_
          refine OL.on g6_4 rfl rfl ?_
          refine OL.q (Y.lenSl Tryd.underlying28 rfl) rfl ?_
          refine OL.on g6_4 rfl rfl ?_
          refine OL.q (Y.gtr rfl rfl) rfl ?_
          refine OL.q (Y.pickF rfl g6_4 rfl) rfl ?_
          refine OL.q (Y.move rfl) rfl ?_
          refine OL.guard (s := 24) rfl (fun g6_10 => ?_) (fun g6_10 => ?_)
          · have ng6_10 := g6_10
            repeat (first | replace ng6_10 := yes ng6_10 | replace ng6_10 := no ng6_10 | replace ng6_10 := nyes ng6_10 | replace ng6_10 := nno ng6_10)
            refine OL.no g6_10 rfl rfl rfl ?_
            refine OL.no g6_10 rfl rfl rfl ?_
            refine OL.no g6_10 rfl rfl rfl ?_
            refine OL.no g6_10 rfl rfl rfl ?_
            refine OL.no g6_10 rfl rfl rfl ?_
            refine OL.q (Y.pickT rfl g6_10 rfl) rfl ?_
            refine OL.q (Y.move rfl) rfl ?_
            have g6_17 : true = true := rfl
            refine OL.no g6_17 rfl rfl rfl ?_
            refine OL.no g6_17 rfl rfl rfl ?_
            refine OL.no g6_17 rfl rfl rfl ?_
            refine OL.no g6_17 rfl rfl rfl ?_
            refine OL.no g6_17 rfl rfl rfl ?_
            refine OL.q (Y.pickT rfl g6_17 rfl) rfl ?_
            refine OL.nil ?_
            exact EX.meet _ [0] (by dsimp only; unfold ActP.great ActC.q TermC.q; dsimp only; rw [hxa, hxk]; rw [Bool.eq_iff_iff]; simp only [Bool.or_eq_true, decide_eq_true_eq]; first | omega | (simp; omega)) ⟨rfl, rfl, rfl, rfl, trivial⟩ rfl rfl
          · have ng6_10 := g6_10
            repeat (first | replace ng6_10 := yes ng6_10 | replace ng6_10 := no ng6_10 | replace ng6_10 := nyes ng6_10 | replace ng6_10 := nno ng6_10)
            refine OL.on g6_10 rfl rfl ?_
            refine OL.q (Y.field L32_4 rfl) rfl ?_
            refine OL.on g6_10 rfl rfl ?_
            refine OL.q (Y.field L30_2 rfl) rfl ?_
            refine OL.on g6_10 rfl rfl ?_
            refine OL.q (Y.load T28 rfl (Ent.at 0 rfl (Up.cellIs _ _ _) (blk_cell rfl))) rfl ?_
            refine OL.on g6_10 rfl rfl ?_
            refine OL.q (Y.lenSl Tryd.underlying28 rfl) rfl ?_
            refine OL.on g6_10 rfl rfl ?_
            refine OL.q (Y.gtr rfl rfl) rfl ?_
            refine OL.q (Y.pickF rfl g6_10 rfl) rfl ?_
            refine OL.q (Y.move rfl) rfl ?_
            refine OL.guard (s := 31) rfl (fun g6_17 => ?_) (fun g6_17 => ?_)
            · have ng6_17 := g6_17
              repeat (first | replace ng6_17 := yes ng6_17 | replace ng6_17 := no ng6_17 | replace ng6_17 := nyes ng6_17 | replace ng6_17 := nno ng6_17)
              refine OL.no g6_17 rfl rfl rfl ?_
              refine OL.no g6_17 rfl rfl rfl ?_
              refine OL.no g6_17 rfl rfl rfl ?_
              refine OL.no g6_17 rfl rfl rfl ?_
              refine OL.no g6_17 rfl rfl rfl ?_
              refine OL.q (Y.pickT rfl g6_17 rfl) rfl ?_
              refine OL.nil ?_
              exact EX.meet _ [0] (by dsimp only; unfold ActP.great ActC.q TermC.q; dsimp only; rw [hxa, hxk]; rw [Bool.eq_iff_iff]; simp only [Bool.or_eq_true, decide_eq_true_eq]; first | omega | (simp; omega)) ⟨rfl, rfl, rfl, rfl, trivial⟩ rfl rfl
            · have ng6_17 := g6_17
              repeat (first | replace ng6_17 := yes ng6_17 | replace ng6_17 := no ng6_17 | replace ng6_17 := nyes ng6_17 | replace ng6_17 := nno ng6_17)
              refine OL.on g6_17 rfl rfl ?_
              refine OL.q (Y.field L32_4 rfl) rfl ?_
              refine OL.on g6_17 rfl rfl ?_
              refine OL.q (Y.field L30_3 rfl) rfl ?_
              refine OL.on g6_17 rfl rfl ?_
              refine OL.q (Y.load T9 rfl (Ent.at 0 rfl (Up.cellIs _ _ _) (blk_cell rfl))) rfl ?_
              refine OL.on g6_17 rfl rfl ?_
              refine OL.q (Y.lenStr Tryd.underlying9 rfl) rfl ?_
              refine OL.on g6_17 rfl rfl ?_
              refine OL.q (Y.gtr rfl rfl) rfl ?_
              refine OL.q (Y.pickF rfl g6_17 rfl) rfl ?_
              refine OL.nil ?_
              exact EX.meet _ [0] (by dsimp only; unfold ActP.great ActC.q TermC.q; dsimp only; rw [hxa, hxk]; rw [Bool.eq_iff_iff]; simp only [Bool.or_eq_true, decide_eq_true_eq]; first | omega | (simp; omega)) ⟨rfl, rfl, rfl, rfl, trivial⟩ rfl rfl
      ·
        rintro z hz
        dsimp only at hz ⊢
        refine OL.nil ?_
        refine EX.seq ?_
        refine CW.cond rfl (fun h2 => ?_) (fun h2 => ?_)
        · have bh2 := h2
          repeat (first | replace h2 := yes h2 | replace h2 := no h2 | replace h2 := nyes h2 | replace h2 := nno h2)
          refine CW.seq ?_
          refine CW.region ?_
          refine OL.q (Y.assign rfl) rfl ?_
          refine OL.nil ?_
          refine EX.seq ?_
          refine CW.ret ?_
          refine EX.retB ?_
          refine EX.retT ?_
          refine EX.retT ?_
          refine EX.retB ?_
          refine EX.retT ?_
          rw [h2] at hz
          exact EX.fin1 [] rfl rfl rfl ⟨by rw [show greatP (l.map ActC.q) = true from great_at (mget ActC.q hp) hz.symm], rfl⟩
        · have bh2 := h2
          repeat (first | replace h2 := yes h2 | replace h2 := no h2 | replace h2 := nyes h2 | replace h2 := nno h2)
          rw [h2] at hz
          have hng := hz.symm
          refine CW.skip ?_
          refine EX.norB ?_
          refine EX.seq ?_
          refine CW.region ?_
          refine OL.q (Y.add1 rfl rfl rfl (by omega)) rfl ?_
          refine OL.q (Y.move rfl) rfl ?_
          refine OL.nil ?_
          exact EX.next (k + 1) [] (⟨by omega, by rw [any_take (mget ActC.q hp), hb, hng]; rfl⟩) (by first | omega | (dsimp only; omega)) ⟨rfl, rfl, rfl, trivial⟩ rfl rfl
    · have bh1 := h1
      repeat (first | replace h1 := yes h1 | replace h1 := no h1 | replace h1 := nyes h1 | replace h1 := nno h1)
      have hkn : n = k := by omega
      subst hkn
      rw [List.take_of_length_le (by simp; omega)] at hb
      refine CW.exit ?_
      refine EX.exitT ?_
      refine EX.exitT ?_
      refine EX.exitB ?_
      refine EX.seq ?_
      refine CW.seq ?_
      refine CW.region ?_
      refine OL.q (Y.assign rfl) rfl ?_
      refine OL.nil ?_
      refine EX.seq ?_
      refine CW.ret ?_
      exact EX.fin1 [] rfl rfl rfl ⟨by rw [show greatP (l.map ActC.q) = false from great_no (by simp; omega) hb], rfl⟩

theorem sortsHeld (a b : Option Addr) (n c m d : Nat) (xs ys : List SortC) (M N : PH) (hx : ∀ s ∈ xs, s.Ok M ∧ s.n ≤ 1000000) (hy : ∀ s ∈ ys, s.Ok N ∧ s.n ≤ 1000000) (hxl : xs.length = n) (hyl : ys.length = m) (hn : n ≤ 1000000) (he : xs.map SortC.q = ys.map SortC.q) :
    FS Tryd.prog 30 [.slice a n c, .slice b m d] (fun h => (rd a n 2 (xs.map sortCells) h ∧ rd b m 2 (ys.map sortCells) h) ∧ le M h ∧ le N h) [] (fun q H => q = .bool true ∧ H = []) := by
  refine FS.intro (N := 42) Tryd.func30 rfl rfl rfl (fun F w0 hF => ?_)
  have hnm : n = m := by rw [← hxl, ← hyl]; simpa using congrArg List.length he
  refine CW.seq ?_
  refine CW.region ?_
  refine OL.q (Y.assign rfl) rfl ?_
  refine OL.nil ?_
  refine EX.seq ?_
  refine CW.seq ?_
  refine CW.seq ?_
  refine CW.region ?_
  refine OL.q (Y.move rfl) rfl ?_
  refine OL.q (Y.lenSl Tryd.underlying53 rfl) rfl ?_
  refine OL.q (Y.move rfl) rfl ?_
  refine OL.q (Y.lenSl Tryd.underlying53 rfl) rfl ?_
  refine OL.q (Y.neq rfl rfl) rfl ?_
  refine OL.nil ?_
  refine EX.seq ?_
  refine CW.cond rfl (fun h0 => ?_) (fun h0 => ?_)
  · repeat (first | replace h0 := yes h0 | replace h0 := no h0 | replace h0 := nyes h0 | replace h0 := nno h0)
    exfalso
    omega
  repeat (first | replace h0 := yes h0 | replace h0 := no h0 | replace h0 := nyes h0 | replace h0 := nno h0)
  refine CW.skip ?_
  refine EX.seq ?_
  refine CW.seq ?_
  refine CW.seq ?_
  refine CW.region ?_
  refine OL.q (Y.move rfl) rfl ?_
  refine OL.q (Y.lenSl Tryd.underlying53 rfl) rfl ?_
  refine OL.q (Y.move rfl) rfl ?_
  refine OL.nil ?_
  refine EX.seq ?_
  refine CW.block ?_
  refine CW.loop (α := Nat) ⟨(fun k => k ≤ n), (fun k => [(0, Value.slice a n c), (1, Value.slice b m d), (12, Value.int IntKind.i64 ↑n), (13, .int .i64 k)]), (fun k => [])⟩
    (fun k => (n - k : Nat)) 0 [] (Nat.zero_le _) ⟨rfl, rfl, rfl, rfl, trivial⟩ rfl rfl ?_
  rintro k hk
  dsimp only at hk ⊢
  refine CW.seq ?_
  refine CW.region ?_
  refine OL.q (Y.lss rfl rfl) rfl ?_
  refine OL.nil ?_
  refine EX.seq ?_
  refine CW.seq ?_
  refine CW.cond rfl (fun h1 => ?_) (fun h1 => ?_)
  · have bh1 := h1
    repeat (first | replace h1 := yes h1 | replace h1 := no h1 | replace h1 := nyes h1 | replace h1 := nno h1)
    obtain ⟨x, hp⟩ : ∃ p, xs[k]? = some p := ⟨_, List.getElem?_eq_getElem (by omega)⟩
    obtain ⟨y, hq⟩ : ∃ p, ys[k]? = some p := ⟨_, List.getElem?_eq_getElem (by omega)⟩
    have hxy : x.q = y.q := by
      have h9 := mget SortC.q hp
      rw [he, mget SortC.q hq] at h9
      exact (Option.some.inj h9).symm
    obtain ⟨⟨hxr, hxc, hxal⟩, hxz⟩ := hx x (mem_of hp)
    obtain ⟨⟨hyr, hyc, hyal⟩, hyz⟩ := hy y (mem_of hq)
    have e1 : x.name = y.name := congrArg SortP.name hxy
    have e2 : x.args = y.args := congrArg SortP.args hxy
    refine CW.skip ?_
    refine EX.seq ?_
    refine CW.seq ?_
    refine CW.block ?_
    refine CW.seq ?_
    refine CW.region ?_
    refine OL.q (Y.move rfl) rfl ?_
    refine OL.q (Y.assign rfl) rfl ?_
    refine OL.nil ?_
    refine EX.seq ?_
    refine CW.seq ?_
    refine CW.drawn [(true, 0), (true, 1), (true, 2), (true, 3), (true, 4), (true, 5), (true, 6), (true, 7), (true, 8), (true, 9), (true, 10), (true, 11), (true, 12), (true, 13), (true, 14), (true, 15), (true, 16), (true, 17), (true, 18), (true, 19), (true, 20), (true, 21), (false, 22), (true, 23), (true, 24)] [] [] mixed (by kernel_rfl) (by repeat (first | exact PanicOk.body | refine PanicOk.then ?_ | refine PanicOk.block ?_)) (by kernel_rfl) rfl rfl rfl rfl ?_
    refine OL.qt (Y.move rfl) rfl ?_
    refine OL.qt (Y.move rfl) rfl ?_
    refine OL.qt (Y.index Tryd.underlying53 C57 rfl rfl (Ent.frame (Up.rd _ _ _ _) (fun h hs => (hF h hs).1.1)) rfl (by omega)) rfl ?_
    refine OL.qt (Y.field L57_0 rfl) rfl ?_
    refine OL.qt (Y.load T9 rfl (cellsIs_at0 (rd_at (Ent.frame (Up.rd _ _ _ _) (fun h hs => (hF h hs).1.1)) (mget _ (by assumption))) rfl)) rfl ?_
    refine OL.qt (Y.move rfl) rfl ?_
    refine OL.qt (Y.move rfl) rfl ?_
    refine OL.qt (Y.index Tryd.underlying53 C57 rfl rfl (Ent.frame (Up.rd _ _ _ _) (fun h hs => (hF h hs).1.2)) rfl (by omega)) rfl ?_
    refine OL.qt (Y.field L57_0 rfl) rfl ?_
    refine OL.qt (Y.load T9 rfl (cellsIs_at0 (rd_at (Ent.frame (Up.rd _ _ _ _) (fun h hs => (hF h hs).1.2)) (mget _ (by assumption))) rfl)) rfl ?_
    refine OL.qt (Y.neqS rfl rfl) rfl ?_
    refine OL.qt (Y.move rfl) rfl ?_
    refine OL.guard (s := 27) rfl (fun g6_11 => ?_) (fun g6_11 => ?_)
    · have ng6_11 := g6_11
      repeat (first | replace ng6_11 := yes ng6_11 | replace ng6_11 := no ng6_11 | replace ng6_11 := nyes ng6_11 | replace ng6_11 := nno ng6_11)
      exfalso
      exact ng6_11 e1
    · have ng6_11 := g6_11
      repeat (first | replace ng6_11 := yes ng6_11 | replace ng6_11 := no ng6_11 | replace ng6_11 := nyes ng6_11 | replace ng6_11 := nno ng6_11)
      refine OL.ont g6_11 rfl rfl ?_
      refine OL.qt (Y.move rfl) rfl ?_
      refine OL.ont g6_11 rfl rfl ?_
      refine OL.qt (Y.move rfl) rfl ?_
      refine OL.ont g6_11 rfl rfl ?_
      refine OL.qt (Y.index Tryd.underlying53 C57 rfl rfl (Ent.frame (Up.rd _ _ _ _) (fun h hs => (hF h hs).1.1)) rfl (by omega)) rfl ?_
      refine OL.ont g6_11 rfl rfl ?_
      refine OL.qt (Y.field L57_1 rfl) rfl ?_
      refine OL.ont g6_11 rfl rfl ?_
      refine OL.qt (Y.load T28 rfl (cellsIs_at (rd_at (Ent.frame (Up.rd _ _ _ _) (fun h hs => (hF h hs).1.1)) (mget _ (by assumption))) rfl)) rfl ?_
      refine OL.ont g6_11 rfl rfl ?_
      refine OL.qt (Y.move rfl) rfl ?_
      refine OL.ont g6_11 rfl rfl ?_
      refine OL.qt (Y.move rfl) rfl ?_
      refine OL.ont g6_11 rfl rfl ?_
      refine OL.qt (Y.index Tryd.underlying53 C57 rfl rfl (Ent.frame (Up.rd _ _ _ _) (fun h hs => (hF h hs).1.2)) rfl (by omega)) rfl ?_
      refine OL.ont g6_11 rfl rfl ?_
      refine OL.qt (Y.field L57_1 rfl) rfl ?_
      refine OL.ont g6_11 rfl rfl ?_
      refine OL.qt (Y.load T28 rfl (cellsIs_at (rd_at (Ent.frame (Up.rd _ _ _ _) (fun h hs => (hF h hs).1.2)) (mget _ (by assumption))) rfl)) rfl ?_
      refine OL.on g6_11 rfl rfl ?_
      refine OL.call [] (sameInts_any x.a y.a x.n x.c y.n y.c x.args y.args hxal hyal (by omega)) Tryd.call26 rfl rfl rfl rfl (Ent.frame (Up.and (Up.rd _ _ _ _) (Up.rd _ _ _ _)) (fun h hs => ⟨imm_ent (Up.rd _ _ _ _) hxr h (hF h hs).2.1, imm_ent (Up.rd _ _ _ _) hyr h (hF h hs).2.2⟩)) rfl ?_
      rintro _ _ ⟨rfl, rfl⟩
      refine ⟨rfl, rfl, ?_⟩
      refine OL.ont g6_11 rfl rfl ?_
      refine OL.qt (Y.not rfl) rfl ?_
      refine OL.qt (Y.pickF rfl g6_11 rfl) rfl ?_
      refine OL.nil ?_
      refine EX.tail ?_
      refine OL.nil ?_
      refine EX.seq ?_
      refine CW.cond rfl (fun h2 => ?_) (fun h2 => ?_)
      · repeat (first | replace h2 := yes h2 | replace h2 := no h2 | replace h2 := nyes h2 | replace h2 := nno h2)
        exfalso
        first | exact h2 e3 | (rw [e2] at h2; simp at h2)
      repeat (first | replace h2 := yes h2 | replace h2 := no h2 | replace h2 := nyes h2 | replace h2 := nno h2)
      refine CW.skip ?_
      refine EX.norB ?_
      refine EX.seq ?_
      refine CW.region ?_
      refine OL.q (Y.add1 rfl rfl rfl (by omega)) rfl ?_
      refine OL.q (Y.move rfl) rfl ?_
      refine OL.nil ?_
      exact EX.next (k + 1) [] (by first | omega | (dsimp only; omega)) (by first | omega | (dsimp only; omega)) ⟨rfl, rfl, rfl, rfl, trivial⟩ rfl rfl
  · have bh1 := h1
    repeat (first | replace h1 := yes h1 | replace h1 := no h1 | replace h1 := nyes h1 | replace h1 := nno h1)
    refine CW.exit ?_
    refine EX.exitT ?_
    refine EX.exitT ?_
    refine EX.exitB ?_
    refine EX.seq ?_
    refine CW.seq ?_
    refine CW.region ?_
    refine OL.q (Y.assign rfl) rfl ?_
    refine OL.nil ?_
    refine EX.seq ?_
    refine CW.ret ?_
    exact EX.fin1 [] rfl rfl rfl ⟨rfl, rfl⟩

theorem funsHeld (a b : Option Addr) (n c m d : Nat) (xs ys : List FunC) (M N : PH) (hx : ∀ s ∈ xs, s.Ok M ∧ s.n ≤ 1000000) (hy : ∀ s ∈ ys, s.Ok N ∧ s.n ≤ 1000000) (hxl : xs.length = n) (hyl : ys.length = m) (hn : n ≤ 1000000) (he : xs.map FunC.q = ys.map FunC.q) :
    FS Tryd.prog 31 [.slice a n c, .slice b m d] (fun h => (rd a n 3 (xs.map funCells) h ∧ rd b m 3 (ys.map funCells) h) ∧ le M h ∧ le N h) [] (fun q H => q = .bool true ∧ H = []) := by
  refine FS.intro (N := 55) Tryd.func31 rfl rfl rfl (fun F w0 hF => ?_)
  have hnm : n = m := by rw [← hxl, ← hyl]; simpa using congrArg List.length he
  refine CW.seq ?_
  refine CW.region ?_
  refine OL.q (Y.assign rfl) rfl ?_
  refine OL.nil ?_
  refine EX.seq ?_
  refine CW.seq ?_
  refine CW.seq ?_
  refine CW.region ?_
  refine OL.q (Y.move rfl) rfl ?_
  refine OL.q (Y.lenSl Tryd.underlying55 rfl) rfl ?_
  refine OL.q (Y.move rfl) rfl ?_
  refine OL.q (Y.lenSl Tryd.underlying55 rfl) rfl ?_
  refine OL.q (Y.neq rfl rfl) rfl ?_
  refine OL.nil ?_
  refine EX.seq ?_
  refine CW.cond rfl (fun h0 => ?_) (fun h0 => ?_)
  · repeat (first | replace h0 := yes h0 | replace h0 := no h0 | replace h0 := nyes h0 | replace h0 := nno h0)
    exfalso
    omega
  repeat (first | replace h0 := yes h0 | replace h0 := no h0 | replace h0 := nyes h0 | replace h0 := nno h0)
  refine CW.skip ?_
  refine EX.seq ?_
  refine CW.seq ?_
  refine CW.seq ?_
  refine CW.region ?_
  refine OL.q (Y.move rfl) rfl ?_
  refine OL.q (Y.lenSl Tryd.underlying55 rfl) rfl ?_
  refine OL.q (Y.move rfl) rfl ?_
  refine OL.nil ?_
  refine EX.seq ?_
  refine CW.block ?_
  refine CW.loop (α := Nat) ⟨(fun k => k ≤ n), (fun k => [(0, Value.slice a n c), (1, Value.slice b m d), (12, Value.int IntKind.i64 ↑n), (13, .int .i64 k)]), (fun k => [])⟩
    (fun k => (n - k : Nat)) 0 [] (Nat.zero_le _) ⟨rfl, rfl, rfl, rfl, trivial⟩ rfl rfl ?_
  rintro k hk
  dsimp only at hk ⊢
  refine CW.seq ?_
  refine CW.region ?_
  refine OL.q (Y.lss rfl rfl) rfl ?_
  refine OL.nil ?_
  refine EX.seq ?_
  refine CW.seq ?_
  refine CW.cond rfl (fun h1 => ?_) (fun h1 => ?_)
  · have bh1 := h1
    repeat (first | replace h1 := yes h1 | replace h1 := no h1 | replace h1 := nyes h1 | replace h1 := nno h1)
    obtain ⟨x, hp⟩ : ∃ p, xs[k]? = some p := ⟨_, List.getElem?_eq_getElem (by omega)⟩
    obtain ⟨y, hq⟩ : ∃ p, ys[k]? = some p := ⟨_, List.getElem?_eq_getElem (by omega)⟩
    have hxy : x.q = y.q := by
      have h9 := mget FunC.q hp
      rw [he, mget FunC.q hq] at h9
      exact (Option.some.inj h9).symm
    obtain ⟨⟨hxr, hxc, hxal⟩, hxz⟩ := hx x (mem_of hp)
    obtain ⟨⟨hyr, hyc, hyal⟩, hyz⟩ := hy y (mem_of hq)
    have e1 : x.name = y.name := congrArg FunP.name hxy
    have e2 : x.args = y.args := congrArg FunP.args hxy
    have e3 : x.result = y.result := congrArg FunP.result hxy
    refine CW.skip ?_
    refine EX.seq ?_
    refine CW.seq ?_
    refine CW.block ?_
    refine CW.seq ?_
    refine CW.region ?_
    refine OL.q (Y.move rfl) rfl ?_
    refine OL.q (Y.assign rfl) rfl ?_
    refine OL.nil ?_
    refine EX.seq ?_
    refine CW.seq ?_
    refine CW.drawn [(true, 0), (true, 1), (true, 2), (true, 3), (true, 4), (true, 5), (true, 6), (true, 7), (true, 8), (true, 9), (true, 10), (true, 11), (true, 12), (true, 13), (true, 14), (true, 15), (true, 16), (true, 17), (true, 18), (true, 19), (true, 20), (true, 21), (false, 22), (true, 23), (true, 24), (true, 25), (true, 26), (true, 27), (true, 28), (true, 29), (true, 30), (true, 31), (true, 32), (true, 33), (true, 34), (true, 35), (true, 36), (true, 37)] [] [] mixed (by kernel_rfl) (by repeat (first | exact PanicOk.body | refine PanicOk.then ?_ | refine PanicOk.block ?_)) (by kernel_rfl) rfl rfl rfl rfl ?_
    refine OL.qt (Y.move rfl) rfl ?_
    refine OL.qt (Y.move rfl) rfl ?_
    refine OL.qt (Y.index Tryd.underlying55 C38 rfl rfl (Ent.frame (Up.rd _ _ _ _) (fun h hs => (hF h hs).1.1)) rfl (by omega)) rfl ?_
    refine OL.qt (Y.field L38_0 rfl) rfl ?_
    refine OL.qt (Y.load T9 rfl (cellsIs_at0 (rd_at (Ent.frame (Up.rd _ _ _ _) (fun h hs => (hF h hs).1.1)) (mget _ (by assumption))) rfl)) rfl ?_
    refine OL.qt (Y.move rfl) rfl ?_
    refine OL.qt (Y.move rfl) rfl ?_
    refine OL.qt (Y.index Tryd.underlying55 C38 rfl rfl (Ent.frame (Up.rd _ _ _ _) (fun h hs => (hF h hs).1.2)) rfl (by omega)) rfl ?_
    refine OL.qt (Y.field L38_0 rfl) rfl ?_
    refine OL.qt (Y.load T9 rfl (cellsIs_at0 (rd_at (Ent.frame (Up.rd _ _ _ _) (fun h hs => (hF h hs).1.2)) (mget _ (by assumption))) rfl)) rfl ?_
    refine OL.qt (Y.neqS rfl rfl) rfl ?_
    refine OL.qt (Y.move rfl) rfl ?_
    refine OL.guard (s := 27) rfl (fun g6_11 => ?_) (fun g6_11 => ?_)
    · have ng6_11 := g6_11
      repeat (first | replace ng6_11 := yes ng6_11 | replace ng6_11 := no ng6_11 | replace ng6_11 := nyes ng6_11 | replace ng6_11 := nno ng6_11)
      exfalso
      exact ng6_11 e1
    · have ng6_11 := g6_11
      repeat (first | replace ng6_11 := yes ng6_11 | replace ng6_11 := no ng6_11 | replace ng6_11 := nyes ng6_11 | replace ng6_11 := nno ng6_11)
      refine OL.ont g6_11 rfl rfl ?_
      refine OL.qt (Y.move rfl) rfl ?_
      refine OL.ont g6_11 rfl rfl ?_
      refine OL.qt (Y.move rfl) rfl ?_
      refine OL.ont g6_11 rfl rfl ?_
      refine OL.qt (Y.index Tryd.underlying55 C38 rfl rfl (Ent.frame (Up.rd _ _ _ _) (fun h hs => (hF h hs).1.1)) rfl (by omega)) rfl ?_
      refine OL.ont g6_11 rfl rfl ?_
      refine OL.qt (Y.field L38_1 rfl) rfl ?_
      refine OL.ont g6_11 rfl rfl ?_
      refine OL.qt (Y.load T28 rfl (cellsIs_at (rd_at (Ent.frame (Up.rd _ _ _ _) (fun h hs => (hF h hs).1.1)) (mget _ (by assumption))) rfl)) rfl ?_
      refine OL.ont g6_11 rfl rfl ?_
      refine OL.qt (Y.move rfl) rfl ?_
      refine OL.ont g6_11 rfl rfl ?_
      refine OL.qt (Y.move rfl) rfl ?_
      refine OL.ont g6_11 rfl rfl ?_
      refine OL.qt (Y.index Tryd.underlying55 C38 rfl rfl (Ent.frame (Up.rd _ _ _ _) (fun h hs => (hF h hs).1.2)) rfl (by omega)) rfl ?_
      refine OL.ont g6_11 rfl rfl ?_
      refine OL.qt (Y.field L38_1 rfl) rfl ?_
      refine OL.ont g6_11 rfl rfl ?_
      refine OL.qt (Y.load T28 rfl (cellsIs_at (rd_at (Ent.frame (Up.rd _ _ _ _) (fun h hs => (hF h hs).1.2)) (mget _ (by assumption))) rfl)) rfl ?_
      refine OL.on g6_11 rfl rfl ?_
      refine OL.call [] (sameInts_any x.a y.a x.n x.c y.n y.c x.args y.args hxal hyal (by omega)) Tryd.call26 rfl rfl rfl rfl (Ent.frame (Up.and (Up.rd _ _ _ _) (Up.rd _ _ _ _)) (fun h hs => ⟨imm_ent (Up.rd _ _ _ _) hxr h (hF h hs).2.1, imm_ent (Up.rd _ _ _ _) hyr h (hF h hs).2.2⟩)) rfl ?_
      rintro _ _ ⟨rfl, rfl⟩
      refine ⟨rfl, rfl, ?_⟩
      refine OL.ont g6_11 rfl rfl ?_
      refine OL.qt (Y.not rfl) rfl ?_
      refine OL.qt (Y.pickF rfl g6_11 rfl) rfl ?_
      refine OL.qt (Y.move rfl) rfl ?_
      refine OL.guard (s := 41) rfl (fun g6_25 => ?_) (fun g6_25 => ?_)
      · have ng6_25 := g6_25
        repeat (first | replace ng6_25 := yes ng6_25 | replace ng6_25 := no ng6_25 | replace ng6_25 := nyes ng6_25 | replace ng6_25 := nno ng6_25)
        exfalso
        rw [e2] at ng6_25; simp at ng6_25
      · have ng6_25 := g6_25
        repeat (first | replace ng6_25 := yes ng6_25 | replace ng6_25 := no ng6_25 | replace ng6_25 := nyes ng6_25 | replace ng6_25 := nno ng6_25)
        refine OL.ont g6_25 rfl rfl ?_
        refine OL.qt (Y.move rfl) rfl ?_
        refine OL.ont g6_25 rfl rfl ?_
        refine OL.qt (Y.move rfl) rfl ?_
        refine OL.ont g6_25 rfl rfl ?_
        refine OL.qt (Y.index Tryd.underlying55 C38 rfl rfl (Ent.frame (Up.rd _ _ _ _) (fun h hs => (hF h hs).1.1)) rfl (by omega)) rfl ?_
        refine OL.ont g6_25 rfl rfl ?_
        refine OL.qt (Y.field L38_2 rfl) rfl ?_
        refine OL.ont g6_25 rfl rfl ?_
        refine OL.qt (Y.load T3 rfl (cellsIs_at (rd_at (Ent.frame (Up.rd _ _ _ _) (fun h hs => (hF h hs).1.1)) (mget _ (by assumption))) rfl)) rfl ?_
        refine OL.ont g6_25 rfl rfl ?_
        refine OL.qt (Y.move rfl) rfl ?_
        refine OL.ont g6_25 rfl rfl ?_
        refine OL.qt (Y.move rfl) rfl ?_
        refine OL.ont g6_25 rfl rfl ?_
        refine OL.qt (Y.index Tryd.underlying55 C38 rfl rfl (Ent.frame (Up.rd _ _ _ _) (fun h hs => (hF h hs).1.2)) rfl (by omega)) rfl ?_
        refine OL.ont g6_25 rfl rfl ?_
        refine OL.qt (Y.field L38_2 rfl) rfl ?_
        refine OL.ont g6_25 rfl rfl ?_
        refine OL.qt (Y.load T3 rfl (cellsIs_at (rd_at (Ent.frame (Up.rd _ _ _ _) (fun h hs => (hF h hs).1.2)) (mget _ (by assumption))) rfl)) rfl ?_
        refine OL.ont g6_25 rfl rfl ?_
        refine OL.qt (Y.neq rfl rfl) rfl ?_
        refine OL.qt (Y.pickF rfl g6_25 rfl) rfl ?_
        refine OL.nil ?_
        refine EX.tail ?_
        refine OL.nil ?_
        refine EX.seq ?_
        refine CW.cond rfl (fun h2 => ?_) (fun h2 => ?_)
        · repeat (first | replace h2 := yes h2 | replace h2 := no h2 | replace h2 := nyes h2 | replace h2 := nno h2)
          exfalso
          first | exact h2 e3 | (rw [e2] at h2; simp at h2)
        repeat (first | replace h2 := yes h2 | replace h2 := no h2 | replace h2 := nyes h2 | replace h2 := nno h2)
        refine CW.skip ?_
        refine EX.norB ?_
        refine EX.seq ?_
        refine CW.region ?_
        refine OL.q (Y.add1 rfl rfl rfl (by omega)) rfl ?_
        refine OL.q (Y.move rfl) rfl ?_
        refine OL.nil ?_
        exact EX.next (k + 1) [] (by first | omega | (dsimp only; omega)) (by first | omega | (dsimp only; omega)) ⟨rfl, rfl, rfl, rfl, trivial⟩ rfl rfl
  · have bh1 := h1
    repeat (first | replace h1 := yes h1 | replace h1 := no h1 | replace h1 := nyes h1 | replace h1 := nno h1)
    refine CW.exit ?_
    refine EX.exitT ?_
    refine EX.exitT ?_
    refine EX.exitB ?_
    refine EX.seq ?_
    refine CW.seq ?_
    refine CW.region ?_
    refine OL.q (Y.assign rfl) rfl ?_
    refine OL.nil ?_
    refine EX.seq ?_
    refine CW.ret ?_
    exact EX.fin1 [] rfl rfl rfl ⟨rfl, rfl⟩

theorem alike_any (a b : Option Addr) (n c m d : Nat) (xs ys : List FunC) (M N : PH) (hx : ∀ s ∈ xs, s.Ok M ∧ s.n ≤ 1000000) (hy : ∀ s ∈ ys, s.Ok N ∧ s.n ≤ 1000000) (hxl : xs.length = n) (hyl : ys.length = m) (hn : n ≤ 1000000) (he : xs.map FunC.q = ys.map FunC.q) :
    FS Tryd.prog 28 [.slice a n c, .slice b m d] (fun h => (rd a n 3 (xs.map funCells) h ∧ rd b m 3 (ys.map funCells) h) ∧ le M h ∧ le N h) [] (fun q H => q = .bool true ∧ H = []) := by
  refine FS.intro (N := 8) Tryd.func28 rfl rfl rfl (fun F w0 hF => ?_)
  refine CW.seq ?_
  refine CW.region ?_
  refine OL.q (Y.assign rfl) rfl ?_
  refine OL.nil ?_
  refine EX.seq ?_
  refine CW.seq ?_
  refine CW.region ?_
  refine OL.q (Y.move rfl) rfl ?_
  refine OL.q (Y.move rfl) rfl ?_
  refine OL.call [] (funsHeld a b n c m d xs ys M N hx hy hxl hyl hn he) Tryd.call31 rfl rfl rfl rfl (Ent.frame (Up.and (Up.and (Up.rd _ _ _ _) (Up.rd _ _ _ _)) (Up.and (fun _ _ e h => le.trans h e) (fun _ _ e h => le.trans h e))) hF) rfl ?_
  rintro _ _ ⟨rfl, rfl⟩
  refine ⟨rfl, rfl, ?_⟩
  refine OL.q (Y.assign rfl) rfl ?_
  refine OL.nil ?_
  refine EX.seq ?_
  refine CW.ret ?_
  exact EX.fin1 [] rfl rfl rfl ⟨rfl, rfl⟩


theorem blk_act {b : Nat} {x : ActC} {ty : TypeId} : ∀ h, blk b (actCells x) ty h → cellsIs b 4 (termCells x.term) h := fun h hb j v hj => by
  have h1 := blk_cells h hb (4 + j) v (by
    have hj4 : j < 4 := (List.getElem?_eq_some_iff.1 hj).1
    rcases (show j = 0 ∨ j = 1 ∨ j = 2 ∨ j = 3 by omega) with rfl | rfl | rfl | rfl <;> exact hj)
  rwa [Nat.zero_add] at h1
def trueT : TermC := ⟨1, 0, none, 0, 0, [], ⟨#[]⟩⟩
def spA : ArP := ⟨9, [⟨⟨#[66, 111, 111, 108]⟩, []⟩, ⟨⟨#[73, 110, 116]⟩, []⟩], [], [⟨1, 0, [], ⟨#[]⟩⟩], [0], [false]⟩
theorem sp1 : (ArP.new 9).term trueT.q = (0, 0, spA) := rfl
theorem sp2 : spA.term trueT.q = (0, 0, spA) := rfl


set_option maxRecDepth 10000 in
theorem speaks_any  :
    FS Tryd.prog 13 [] (tabP) [] (fun q H => q = .bool true ∧ H = []) := by
  refine FS.intro (N := 41) Tryd.func13 rfl rfl rfl (fun F w0 hF => ?_)
  refine CW.seq ?_
  refine CW.region ?_
  refine OL.q (Y.assign rfl) rfl ?_
  refine OL.nil ?_
  refine EX.seq ?_
  refine CW.seq ?_
  refine CW.region ?_
  refine OL.call [] (New_w 9) Tryd.call15 rfl rfl rfl rfl (Ent.frame Up.tabP hF) rfl ?_
  rintro _ _ ⟨t, rfl, rfl⟩
  refine ⟨rfl, rfl, ?_⟩
  refine OL.q (Y.assign rfl) rfl ?_
  refine OL.nil ?_
  refine EX.seq ?_
  refine CW.seq ?_
  refine CW.region ?_
  refine OL.q (Y.move rfl) rfl ?_
  refine OL.q (Y.build B30 rfl rfl) rfl ?_
  refine OL.call [0] (Term_w t (ArP.new 9) trueT rfl (by decide) (by decide)) Tryd.call19 rfl rfl rfl rfl (rd0 none _) rfl ?_
  rw [sp1]
  rintro _ _ ⟨rfl, rfl⟩
  refine ⟨rfl, rfl, ?_⟩
  refine OL.q (Y.move rfl) rfl ?_
  refine OL.q (Y.extract rfl rfl) rfl ?_
  refine OL.q (Y.extract rfl rfl) rfl ?_
  refine OL.q (Y.assign rfl) rfl ?_
  refine OL.q (Y.assign rfl) rfl ?_
  refine OL.nil ?_
  refine EX.seq ?_
  refine CW.seq ?_
  refine CW.region ?_
  refine OL.q (Y.move rfl) rfl ?_
  refine OL.q (Y.build B30 rfl rfl) rfl ?_
  refine OL.call [0] (Term_w t (spA) trueT rfl (by decide) (by decide)) Tryd.call19 rfl rfl rfl rfl (rd0 none _) rfl ?_
  rw [sp2]
  rintro _ _ ⟨rfl, rfl⟩
  refine ⟨rfl, rfl, ?_⟩
  refine OL.q (Y.move rfl) rfl ?_
  refine OL.q (Y.extract rfl rfl) rfl ?_
  refine OL.q (Y.extract rfl rfl) rfl ?_
  refine OL.q (Y.assign rfl) rfl ?_
  refine OL.q (Y.assign rfl) rfl ?_
  refine OL.nil ?_
  refine EX.seq ?_
  refine CW.seq ?_
  refine CW.region ?_
  refine OL.q (Y.move rfl) rfl ?_
  refine OL.q (Y.eql rfl rfl) rfl ?_
  refine OL.q (Y.move rfl) rfl ?_
  refine OL.guard (s := 21) rfl (fun g4_2 => ?_) (fun g4_2 => ?_)
  · have ng4_2 := g4_2
    repeat (first | replace ng4_2 := yes ng4_2 | replace ng4_2 := no ng4_2 | replace ng4_2 := nyes ng4_2 | replace ng4_2 := nno ng4_2)
    refine OL.on g4_2 rfl rfl ?_
    refine OL.q (Y.move rfl) rfl ?_
    refine OL.on g4_2 rfl rfl ?_
    refine OL.q (Y.eql rfl rfl) rfl ?_
    refine OL.q (Y.pickT rfl g4_2 rfl) rfl ?_
    refine OL.q (Y.move rfl) rfl ?_
    refine OL.guard (s := 25) rfl (fun g4_6 => ?_) (fun g4_6 => ?_)
    · have ng4_6 := g4_6
      repeat (first | replace ng4_6 := yes ng4_6 | replace ng4_6 := no ng4_6 | replace ng4_6 := nyes ng4_6 | replace ng4_6 := nno ng4_6)
      refine OL.on g4_6 rfl rfl ?_
      refine OL.q (Y.move rfl) rfl ?_
      refine OL.on g4_6 rfl rfl ?_
      refine OL.q (Y.move rfl) rfl ?_
      refine OL.on g4_6 rfl rfl ?_
      refine OL.q (Y.eql rfl rfl) rfl ?_
      refine OL.q (Y.pickT rfl g4_6 rfl) rfl ?_
      refine OL.q (Y.move rfl) rfl ?_
      refine OL.guard (s := 30) rfl (fun g4_11 => ?_) (fun g4_11 => ?_)
      · have ng4_11 := g4_11
        repeat (first | replace ng4_11 := yes ng4_11 | replace ng4_11 := no ng4_11 | replace ng4_11 := nyes ng4_11 | replace ng4_11 := nno ng4_11)
        refine OL.on g4_11 rfl rfl ?_
        refine OL.q (Y.move rfl) rfl ?_
        refine OL.on g4_11 rfl rfl ?_
        refine OL.call [] (Len_w t spA) Tryd.call18 rfl rfl rfl rfl (Ent.at 0 rfl (Up.arena _ _) (fun _ h => h)) rfl ?_
        rintro _ _ ⟨rfl, rfl⟩
        refine ⟨rfl, rfl, ?_⟩
        refine OL.on g4_11 rfl rfl ?_
        refine OL.q (Y.eql rfl rfl) rfl ?_
        refine OL.q (Y.pickT rfl g4_11 rfl) rfl ?_
        refine OL.q (Y.move rfl) rfl ?_
        refine OL.guard (s := 35) rfl (fun g4_16 => ?_) (fun g4_16 => ?_)
        · have ng4_16 := g4_16
          repeat (first | replace ng4_16 := yes ng4_16 | replace ng4_16 := no ng4_16 | replace ng4_16 := nyes ng4_16 | replace ng4_16 := nno ng4_16)
          refine OL.on g4_16 rfl rfl ?_
          refine OL.q (Y.move rfl) rfl ?_
          refine OL.on g4_16 rfl rfl ?_
          refine OL.call [] (Sorts_w t spA) Tryd.call27 rfl rfl rfl rfl (Ent.at 0 rfl (Up.arena _ _) (fun _ h => h)) rfl ?_
          rintro _ _ ⟨sa, sc, ss, M2, rfl, hsq, hso, rfl⟩
          refine ⟨rfl, rfl, ?_⟩
          refine OL.on g4_16 rfl rfl ?_
          refine OL.q (Y.lenSl Tryd.underlying53 rfl) rfl ?_
          refine OL.on g4_16 rfl rfl ?_
          refine OL.q (Y.eql rfl rfl) rfl ?_
          refine OL.q (Y.pickT rfl g4_16 rfl) rfl ?_
          refine OL.q (Y.assign rfl) rfl ?_
          refine OL.nil ?_
          refine EX.seq ?_
          refine CW.ret ?_
          exact EX.fin1 [] rfl rfl rfl ⟨rfl, rfl⟩
        · have ng4_16 := g4_16
          repeat (first | replace ng4_16 := yes ng4_16 | replace ng4_16 := no ng4_16 | replace ng4_16 := nyes ng4_16 | replace ng4_16 := nno ng4_16)
          exfalso
          first | omega | contradiction | exact absurd rfl ng4_16 | exact absurd ng4_16 (by simp) | exact absurd ng4_16 (by decide)
      · have ng4_11 := g4_11
        repeat (first | replace ng4_11 := yes ng4_11 | replace ng4_11 := no ng4_11 | replace ng4_11 := nyes ng4_11 | replace ng4_11 := nno ng4_11)
        exfalso
        first | omega | contradiction | exact absurd rfl ng4_11 | exact absurd ng4_11 (by simp) | exact absurd ng4_11 (by decide)
    · have ng4_6 := g4_6
      repeat (first | replace ng4_6 := yes ng4_6 | replace ng4_6 := no ng4_6 | replace ng4_6 := nyes ng4_6 | replace ng4_6 := nno ng4_6)
      exfalso
      first | omega | contradiction | exact absurd rfl ng4_6 | exact absurd ng4_6 (by simp) | exact absurd ng4_6 (by decide)
  · have ng4_2 := g4_2
    repeat (first | replace ng4_2 := yes ng4_2 | replace ng4_2 := no ng4_2 | replace ng4_2 := nyes ng4_2 | replace ng4_2 := nno ng4_2)
    exfalso
    first | omega | contradiction | exact absurd rfl ng4_2 | exact absurd ng4_2 (by simp) | exact absurd ng4_2 (by decide)


theorem act_sort {A : ArP} {x : ActP} (h : x.what = 0) : A.act x = (A.sort x.name x.args).2.2 := by unfold ArP.act; rw [if_pos h]
theorem act_func {A : ArP} {x : ActP} (h0 : ¬ x.what = 0) (h : x.what = 1) : A.act x = (A.func ⟨x.name, x.args, x.result⟩).2.2 := by unfold ArP.act; rw [if_neg h0, if_pos h]
theorem act_term {A : ArP} {x : ActP} (h0 : ¬ x.what = 0) (h : ¬ x.what = 1) : A.act x = (A.term x.term).2.2 := by unfold ArP.act; rw [if_neg h0, if_neg h]
theorem small_act {l : List ActC} {k : Nat} {x : ActC} (h : greatP (l.map ActC.q) = false) (hx : l[k]? = some x) : l.length ≤ 80 ∧ x.name.size ≤ 60 ∧ x.args.length ≤ 12 ∧ x.term.kids.length ≤ 12 ∧ x.term.num.size ≤ 60 := by
  unfold greatP at h
  simp only [Bool.or_eq_false_iff, decide_eq_false_iff_not, List.length_map] at h
  have h2 : x.q.great = false := by
    have := List.any_eq_false.1 h.2 x.q (mem_of (mget ActC.q hx))
    simpa using this
  unfold ActP.great at h2
  simp only [Bool.or_eq_false_iff, decide_eq_false_iff_not] at h2
  obtain ⟨⟨⟨h3, h4⟩, h5⟩, h6⟩ := h2
  exact ⟨by omega, Nat.not_lt.1 h3, Nat.not_lt.1 h4, Nat.not_lt.1 h5, Nat.not_lt.1 h6⟩
theorem small_len {l : List ActC} (h : greatP (l.map ActC.q) = false) : l.length ≤ 80 := by
  unfold greatP at h
  simp only [Bool.or_eq_false_iff, decide_eq_false_iff_not, List.length_map] at h
  omega


set_option maxRecDepth 10000 in
theorem laid_any (most : Int) (a : Option Addr) (n c : Nat) (l : List ActC) (M : PH) (hl : rd a n 8 (l.map actCells) M) (hln : l.length = n) (ho : ∀ x ∈ l, x.Ok M) (hg : greatP (l.map ActC.q) = false) (htab : tabP M) :
    FS Tryd.prog 21 [.int .i64 most, .slice a n c] (imm M) [] (fun q H => ∃ t r, q = .tuple #[.pointer (some ⟨t, 0, none⟩), .pointer (some ⟨r, 0, none⟩), .bool true] ∧ H = [arena t (laid most (l.map ActC.q)), rarena r (laid most (l.map ActC.q)) M]) := by
  refine FS.intro (N := 126) Tryd.func21 rfl rfl rfl (fun F w0 hF => ?_)
  have hl80 := small_len hg
  refine CW.seq ?_
  refine CW.region ?_
  refine OL.q (Y.assign rfl) rfl ?_
  refine OL.q (Y.assign rfl) rfl ?_
  refine OL.q (Y.assign rfl) rfl ?_
  refine OL.nil ?_
  refine EX.seq ?_
  refine CW.seq ?_
  refine CW.region ?_
  refine OL.q (Y.move rfl) rfl ?_
  refine OL.call [] (New_w most) Tryd.call15 rfl rfl rfl rfl (Ent.frame Up.tabP (fun h hs => imm_ent Up.tabP htab h (hF h hs))) rfl ?_
  rintro _ _ ⟨t, rfl, rfl⟩
  refine ⟨rfl, rfl, ?_⟩
  refine OL.q (Y.move rfl) rfl ?_
  refine OL.call [] (rNew_w most M) Tryd.call63 rfl rfl rfl rfl (Ent.nothing _) rfl ?_
  rintro _ _ ⟨r, rfl, rfl⟩
  refine ⟨rfl, rfl, ?_⟩
  refine OL.q (Y.assign rfl) rfl ?_
  refine OL.q (Y.assign rfl) rfl ?_
  refine OL.nil ?_
  refine EX.seq ?_
  refine CW.seq ?_
  refine CW.seq ?_
  refine CW.region ?_
  refine OL.q (Y.move rfl) rfl ?_
  refine OL.q (Y.lenSl Tryd.underlying22 rfl) rfl ?_
  refine OL.q (Y.move rfl) rfl ?_
  refine OL.nil ?_
  refine EX.seq ?_
  refine CW.block ?_
  refine CW.loop (α := Nat) ⟨(fun k => k ≤ n), (fun k => [(7, Value.pointer (some { block := t, off := 0 })), (8, Value.pointer (some { block := r, off := 0 })), (28, Value.slice a n c), (29, Value.int IntKind.i64 ↑n), (30, .int .i64 k)]), (fun k => [arena t (laid most ((l.map ActC.q).take k)), rarena r (laid most ((l.map ActC.q).take k)) M])⟩
    (fun k => (n - k : Nat)) 0 [0, 1] (Nat.zero_le _) ⟨rfl, rfl, rfl, rfl, rfl, trivial⟩ rfl rfl ?_
  rintro k hk
  dsimp only at hk ⊢
  refine CW.seq ?_
  refine CW.region ?_
  refine OL.q (Y.lss rfl rfl) rfl ?_
  refine OL.nil ?_
  refine EX.seq ?_
  refine CW.seq ?_
  refine CW.cond rfl (fun h0 => ?_) (fun h0 => ?_)
  · have bh0 := h0
    repeat (first | replace h0 := yes h0 | replace h0 := no h0 | replace h0 := nyes h0 | replace h0 := nno h0)
    obtain ⟨x, hp⟩ : ∃ p, l[k]? = some p := ⟨_, List.getElem?_eq_getElem (by omega)⟩
    obtain ⟨⟨hxr, hxc, hxl⟩, ⟨hyr, hyc, hyl⟩⟩ := ho x (mem_of hp)
    obtain ⟨_, hs1, hs2, hs3, hs4⟩ := small_act hg hp
    obtain ⟨hbd1, hbd2⟩ := laid_bd most ((l.map ActC.q).take k)
    simp only [List.length_take, List.length_map] at hbd1 hbd2
    generalize hA : (laid most ((l.map ActC.q).take k)) = A at hbd1 hbd2 ⊢
    refine CW.skip ?_
    refine EX.seq ?_
    refine CW.seq ?_
    refine CW.block ?_
    refine CW.seq ?_
    refine CW.region ?_
    refine OL.q (Y.index Tryd.underlying22 C32 rfl rfl (Ent.frame (Up.rd _ _ _ _) (fun h hs => imm_ent (Up.rd _ _ _ _) (by assumption) h (hF h hs))) rfl (by omega)) rfl ?_
    refine OL.q (Y.loadN S32 rfl rfl (rd_at (Ent.frame (Up.rd _ _ _ _) (fun h hs => imm_ent (Up.rd _ _ _ _) (by assumption) h (hF h hs))) (mget _ (by assumption)))) rfl ?_
    refine OL.alloc C32 rfl (fun b10 => ⟨rfl, rfl, ?_⟩)
    refine OL.storeAll 2 rfl C32 rfl rfl rfl rfl rfl rfl ⟨rfl, rfl, ?_⟩
    refine OL.nil ?_
    refine EX.seq ?_
    refine CW.seq ?_
    refine CW.region ?_
    refine OL.q (Y.field L32_0 rfl) rfl ?_
    refine OL.q (Y.load T3 rfl (Ent.at 2 rfl (Up.cellIs _ _ _) (blk_cell rfl))) rfl ?_
    refine OL.nil ?_
    refine EX.seq ?_
    refine CW.block ?_
    refine CW.seq ?_
    refine CW.region ?_
    refine OL.q (Y.eql rfl rfl) rfl ?_
    refine OL.q (Y.assign rfl) rfl ?_
    refine OL.nil ?_
    refine EX.seq ?_
    refine CW.cond rfl (fun h1 => ?_) (fun h1 => ?_)
    · have bh1 := h1
      repeat (first | replace h1 := yes h1 | replace h1 := no h1 | replace h1 := nyes h1 | replace h1 := nno h1)
      refine CW.seq ?_
      refine CW.drawn [(true, 0), (true, 1), (true, 2), (true, 4), (true, 5), (false, 3), (false, 6), (false, 7), (true, 8), (true, 9), (true, 10), (true, 11)] [12] [2] mixed (by kernel_rfl) (by repeat (first | exact PanicOk.body | refine PanicOk.then ?_ | refine PanicOk.block ?_)) (by kernel_rfl) rfl rfl rfl rfl ?_
      refine OL.qt (Y.move rfl) rfl ?_
      refine OL.qt (Y.field L32_1 rfl) rfl ?_
      refine OL.qt (Y.load T9 rfl (Ent.at 0 rfl (Up.cellIs _ _ _) (blk_cell rfl))) rfl ?_
      refine OL.qt (Y.field L32_2 rfl) rfl ?_
      refine OL.qt (Y.load T28 rfl (Ent.at 0 rfl (Up.cellIs _ _ _) (blk_cell rfl))) rfl ?_
      refine OL.buildSlice ([]) Tryd.underlying28 C3 (by decide) rfl (by decide) rfl rfl rfl (fun b66 => ⟨rfl, rfl, ?_⟩)
      refine OL.append (x.args.map intCells) 3 rfl Tryd.underlying28 E3 rfl rfl (Ent.frame (Up.rd _ _ _ _) (fun h hs => imm_ent (Up.rd _ _ _ _) hxr h (hF h hs))) (oneRows_map _ (fun _ => rfl) _) (by omega) (by omega) rfl (fun a69 c69 => ⟨rfl, rfl, ?_⟩)
      refine OL.call [0] (Sort_w t A x.name a69 (0 + x.n) c69 x.args (by omega) (by omega) (by omega) (by omega)) Tryd.call16 rfl rfl rfl rfl (Ent.and (Ent.frame Up.tabP (fun h hs => imm_ent Up.tabP htab h (hF h hs))) (Ent.at 3 rfl (Up.rd _ _ _ _) row_rd)) rfl ?_
      rintro _ _ ⟨rfl, rfl⟩
      refine ⟨rfl, rfl, ?_⟩
      refine OL.qt (Y.move rfl) rfl ?_
      refine OL.qt (Y.extract rfl rfl) rfl ?_
      refine OL.qt (Y.extract rfl rfl) rfl ?_
      refine OL.qt (Y.assign rfl) rfl ?_
      refine OL.nil ?_
      refine EX.tail ?_
      refine OL.q (Y.assign rfl) rfl ?_
      refine OL.nil ?_
      refine EX.seq ?_
      refine CW.seq ?_
      refine CW.region ?_
      refine OL.q (Y.move rfl) rfl ?_
      refine OL.q (Y.field L32_1 rfl) rfl ?_
      refine OL.q (Y.load T9 rfl (Ent.at 2 rfl (Up.cellIs _ _ _) (blk_cell rfl))) rfl ?_
      refine OL.q (Y.field L32_2 rfl) rfl ?_
      refine OL.q (Y.load T28 rfl (Ent.at 2 rfl (Up.cellIs _ _ _) (blk_cell rfl))) rfl ?_
      refine OL.call [1] (rSort_w r A M x.name x.a x.n x.c x.args ⟨hxr, hxc, hxl⟩ (by omega) (by omega)) Tryd.call64 rfl rfl rfl rfl (Ent.frame (fun _ _ e h => le.trans h e) hF) rfl ?_
      rintro _ _ ⟨rfl, rfl⟩
      refine ⟨rfl, rfl, ?_⟩
      refine OL.q (Y.move rfl) rfl ?_
      refine OL.q (Y.extract rfl rfl) rfl ?_
      refine OL.q (Y.extract rfl rfl) rfl ?_
      refine OL.q (Y.assign rfl) rfl ?_
      refine OL.q (Y.assign rfl) rfl ?_
      refine OL.nil ?_
      refine EX.seq ?_
      refine CW.seq ?_
      refine CW.region ?_
      refine OL.q (Y.move rfl) rfl ?_
      refine OL.q (Y.move rfl) rfl ?_
      refine OL.q (Y.neq rfl rfl) rfl ?_
      refine OL.q (Y.move rfl) rfl ?_
      refine OL.guard (s := 85) rfl (fun g13_3 => ?_) (fun g13_3 => ?_)
      · have ng13_3 := g13_3
        repeat (first | replace ng13_3 := yes ng13_3 | replace ng13_3 := no ng13_3 | replace ng13_3 := nyes ng13_3 | replace ng13_3 := nno ng13_3)
        exfalso
        exact ng13_3 rfl
      · have ng13_3 := g13_3
        repeat (first | replace ng13_3 := yes ng13_3 | replace ng13_3 := no ng13_3 | replace ng13_3 := nyes ng13_3 | replace ng13_3 := nno ng13_3)
        refine OL.on g13_3 rfl rfl ?_
        refine OL.q (Y.move rfl) rfl ?_
        refine OL.on g13_3 rfl rfl ?_
        refine OL.q (Y.move rfl) rfl ?_
        refine OL.on g13_3 rfl rfl ?_
        refine OL.q (Y.neq rfl rfl) rfl ?_
        refine OL.q (Y.pickF rfl g13_3 rfl) rfl ?_
        refine OL.nil ?_
        refine EX.seq ?_
        refine CW.cond rfl (fun h2 => ?_) (fun h2 => ?_)
        · repeat (first | replace h2 := yes h2 | replace h2 := no h2 | replace h2 := nyes h2 | replace h2 := nno h2)
          exfalso
          exact h2 rfl
        repeat (first | replace h2 := yes h2 | replace h2 := no h2 | replace h2 := nyes h2 | replace h2 := nno h2)
        refine CW.skip ?_
        refine EX.norB ?_
        refine EX.norB ?_
        refine EX.seq ?_
        refine CW.region ?_
        refine OL.q (Y.add1 rfl rfl rfl (by omega)) rfl ?_
        refine OL.q (Y.move rfl) rfl ?_
        refine OL.nil ?_
        exact EX.next (k + 1) [0, 1] ((by omega)) (by first | omega | (dsimp only; omega)) ⟨rfl, rfl, rfl, rfl, rfl, trivial⟩ rfl (by show [_, _] = [_, _]; rw [take_snoc (mget ActC.q hp), laid_snoc, hA, act_sort (show x.q.what = 0 from h1)]; rfl)
    · have bh1 := h1
      repeat (first | replace h1 := yes h1 | replace h1 := no h1 | replace h1 := nyes h1 | replace h1 := nno h1)
      refine CW.seq ?_
      refine CW.region ?_
      refine OL.q (Y.eql rfl rfl) rfl ?_
      refine OL.q (Y.assign rfl) rfl ?_
      refine OL.nil ?_
      refine EX.seq ?_
      refine CW.cond rfl (fun h3 => ?_) (fun h3 => ?_)
      · have bh3 := h3
        repeat (first | replace h3 := yes h3 | replace h3 := no h3 | replace h3 := nyes h3 | replace h3 := nno h3)
        refine CW.seq ?_
        refine CW.region ?_
        refine OL.q (Y.field L32_1 rfl) rfl ?_
        refine OL.q (Y.load T9 rfl (Ent.at 2 rfl (Up.cellIs _ _ _) (blk_cell rfl))) rfl ?_
        refine OL.q (Y.field L32_2 rfl) rfl ?_
        refine OL.q (Y.load T28 rfl (Ent.at 2 rfl (Up.cellIs _ _ _) (blk_cell rfl))) rfl ?_
        refine OL.q (Y.field L32_3 rfl) rfl ?_
        refine OL.q (Y.load T3 rfl (Ent.at 2 rfl (Up.cellIs _ _ _) (blk_cell rfl))) rfl ?_
        refine OL.q (Y.build B38 rfl rfl) rfl ?_
        refine OL.alloc C38 rfl (fun b15 => ⟨rfl, rfl, ?_⟩)
        refine OL.storeAll 3 rfl C38 rfl rfl rfl rfl rfl rfl ⟨rfl, rfl, ?_⟩
        refine OL.nil ?_
        refine EX.seq ?_
        refine CW.seq ?_
        refine CW.region ?_
        refine OL.q (Y.move rfl) rfl ?_
        refine OL.q (Y.loadN S38 rfl rfl (Ent.at 3 rfl (Up.cellsIs _ _ _) blk_cells)) rfl ?_
        refine OL.call [0] (Fun_w t A x.name x.a x.n x.c x.args x.result hxl (by omega) (by omega)) Tryd.call17 rfl rfl rfl rfl (Ent.frame (Up.rd _ _ _ _) (fun h hs => imm_ent (Up.rd _ _ _ _) hxr h (hF h hs))) rfl ?_
        rintro _ _ ⟨rfl, rfl⟩
        refine ⟨rfl, rfl, ?_⟩
        refine OL.q (Y.move rfl) rfl ?_
        refine OL.q (Y.extract rfl rfl) rfl ?_
        refine OL.q (Y.extract rfl rfl) rfl ?_
        refine OL.q (Y.assign rfl) rfl ?_
        refine OL.q (Y.assign rfl) rfl ?_
        refine OL.nil ?_
        refine EX.seq ?_
        refine CW.seq ?_
        refine CW.region ?_
        refine OL.q (Y.move rfl) rfl ?_
        refine OL.q (Y.loadN S38 rfl rfl (Ent.at 3 rfl (Up.cellsIs _ _ _) blk_cells)) rfl ?_
        refine OL.call [1] (rFun_w r A M x.name x.a x.n x.c x.args x.result ⟨hxr, hxc, hxl⟩ (by omega) (by omega)) Tryd.call65 rfl rfl rfl rfl (Ent.frame (fun _ _ e h => le.trans h e) hF) rfl ?_
        rintro _ _ ⟨rfl, rfl⟩
        refine ⟨rfl, rfl, ?_⟩
        refine OL.q (Y.move rfl) rfl ?_
        refine OL.q (Y.extract rfl rfl) rfl ?_
        refine OL.q (Y.extract rfl rfl) rfl ?_
        refine OL.q (Y.assign rfl) rfl ?_
        refine OL.q (Y.assign rfl) rfl ?_
        refine OL.nil ?_
        refine EX.seq ?_
        refine CW.seq ?_
        refine CW.region ?_
        refine OL.q (Y.move rfl) rfl ?_
        refine OL.q (Y.move rfl) rfl ?_
        refine OL.q (Y.neq rfl rfl) rfl ?_
        refine OL.q (Y.move rfl) rfl ?_
        refine OL.guard (s := 116) rfl (fun g19_3 => ?_) (fun g19_3 => ?_)
        · have ng19_3 := g19_3
          repeat (first | replace ng19_3 := yes ng19_3 | replace ng19_3 := no ng19_3 | replace ng19_3 := nyes ng19_3 | replace ng19_3 := nno ng19_3)
          exfalso
          exact ng19_3 rfl
        · have ng19_3 := g19_3
          repeat (first | replace ng19_3 := yes ng19_3 | replace ng19_3 := no ng19_3 | replace ng19_3 := nyes ng19_3 | replace ng19_3 := nno ng19_3)
          refine OL.on g19_3 rfl rfl ?_
          refine OL.q (Y.move rfl) rfl ?_
          refine OL.on g19_3 rfl rfl ?_
          refine OL.q (Y.move rfl) rfl ?_
          refine OL.on g19_3 rfl rfl ?_
          refine OL.q (Y.neq rfl rfl) rfl ?_
          refine OL.q (Y.pickF rfl g19_3 rfl) rfl ?_
          refine OL.nil ?_
          refine EX.seq ?_
          refine CW.cond rfl (fun h4 => ?_) (fun h4 => ?_)
          · repeat (first | replace h4 := yes h4 | replace h4 := no h4 | replace h4 := nyes h4 | replace h4 := nno h4)
            exfalso
            exact h4 rfl
          repeat (first | replace h4 := yes h4 | replace h4 := no h4 | replace h4 := nyes h4 | replace h4 := nno h4)
          refine CW.skip ?_
          refine EX.norB ?_
          refine EX.norB ?_
          refine EX.seq ?_
          refine CW.region ?_
          refine OL.q (Y.add1 rfl rfl rfl (by omega)) rfl ?_
          refine OL.q (Y.move rfl) rfl ?_
          refine OL.nil ?_
          exact EX.next (k + 1) [0, 1] ((by omega)) (by first | omega | (dsimp only; omega)) ⟨rfl, rfl, rfl, rfl, rfl, trivial⟩ rfl (by show [_, _] = [_, _]; rw [take_snoc (mget ActC.q hp), laid_snoc, hA, act_func (show ¬ x.q.what = 0 from h1) (show x.q.what = 1 from h3)]; rfl)
      · have bh3 := h3
        repeat (first | replace h3 := yes h3 | replace h3 := no h3 | replace h3 := nyes h3 | replace h3 := nno h3)
        refine CW.seq ?_
        refine CW.region ?_
        refine OL.q (Y.move rfl) rfl ?_
        refine OL.q (Y.field L32_4 rfl) rfl ?_
        refine OL.q (Y.loadN S30 (vs := termCells x.term) rfl rfl (Ent.at 2 rfl (Up.cellsIs _ _ _) blk_act)) rfl ?_
        refine OL.call [0] (Term_w t A x.term hyl (by omega) (by omega)) Tryd.call19 rfl rfl rfl rfl (Ent.frame (Up.rd _ _ _ _) (fun h hs => imm_ent (Up.rd _ _ _ _) hyr h (hF h hs))) rfl ?_
        rintro _ _ ⟨rfl, rfl⟩
        refine ⟨rfl, rfl, ?_⟩
        refine OL.q (Y.move rfl) rfl ?_
        refine OL.q (Y.extract rfl rfl) rfl ?_
        refine OL.q (Y.extract rfl rfl) rfl ?_
        refine OL.q (Y.assign rfl) rfl ?_
        refine OL.q (Y.assign rfl) rfl ?_
        refine OL.nil ?_
        refine EX.seq ?_
        refine CW.seq ?_
        refine CW.region ?_
        refine OL.q (Y.move rfl) rfl ?_
        refine OL.q (Y.field L32_4 rfl) rfl ?_
        refine OL.q (Y.loadN S30 (vs := termCells x.term) rfl rfl (Ent.at 2 rfl (Up.cellsIs _ _ _) blk_act)) rfl ?_
        refine OL.call [1] (rTerm_w r A M x.term ⟨hyr, hyc, hyl⟩ (by omega) (by omega)) Tryd.call66 rfl rfl rfl rfl (Ent.frame (fun _ _ e h => le.trans h e) hF) rfl ?_
        rintro _ _ ⟨rfl, rfl⟩
        refine ⟨rfl, rfl, ?_⟩
        refine OL.q (Y.move rfl) rfl ?_
        refine OL.q (Y.extract rfl rfl) rfl ?_
        refine OL.q (Y.extract rfl rfl) rfl ?_
        refine OL.q (Y.assign rfl) rfl ?_
        refine OL.q (Y.assign rfl) rfl ?_
        refine OL.nil ?_
        refine EX.seq ?_
        refine CW.seq ?_
        refine CW.region ?_
        refine OL.q (Y.move rfl) rfl ?_
        refine OL.q (Y.move rfl) rfl ?_
        refine OL.q (Y.neq rfl rfl) rfl ?_
        refine OL.q (Y.move rfl) rfl ?_
        refine OL.guard (s := 53) rfl (fun g8_3 => ?_) (fun g8_3 => ?_)
        · have ng8_3 := g8_3
          repeat (first | replace ng8_3 := yes ng8_3 | replace ng8_3 := no ng8_3 | replace ng8_3 := nyes ng8_3 | replace ng8_3 := nno ng8_3)
          exfalso
          exact ng8_3 rfl
        · have ng8_3 := g8_3
          repeat (first | replace ng8_3 := yes ng8_3 | replace ng8_3 := no ng8_3 | replace ng8_3 := nyes ng8_3 | replace ng8_3 := nno ng8_3)
          refine OL.on g8_3 rfl rfl ?_
          refine OL.q (Y.move rfl) rfl ?_
          refine OL.on g8_3 rfl rfl ?_
          refine OL.q (Y.move rfl) rfl ?_
          refine OL.on g8_3 rfl rfl ?_
          refine OL.q (Y.neq rfl rfl) rfl ?_
          refine OL.q (Y.pickF rfl g8_3 rfl) rfl ?_
          refine OL.nil ?_
          refine EX.seq ?_
          refine CW.cond rfl (fun h5 => ?_) (fun h5 => ?_)
          · repeat (first | replace h5 := yes h5 | replace h5 := no h5 | replace h5 := nyes h5 | replace h5 := nno h5)
            exfalso
            exact h5 rfl
          repeat (first | replace h5 := yes h5 | replace h5 := no h5 | replace h5 := nyes h5 | replace h5 := nno h5)
          refine CW.skip ?_
          refine EX.norB ?_
          refine EX.norB ?_
          refine EX.seq ?_
          refine CW.region ?_
          refine OL.q (Y.add1 rfl rfl rfl (by omega)) rfl ?_
          refine OL.q (Y.move rfl) rfl ?_
          refine OL.nil ?_
          exact EX.next (k + 1) [0, 1] ((by omega)) (by first | omega | (dsimp only; omega)) ⟨rfl, rfl, rfl, rfl, rfl, trivial⟩ rfl (by show [_, _] = [_, _]; rw [take_snoc (mget ActC.q hp), laid_snoc, hA, act_term (show ¬ x.q.what = 0 from h1) (show ¬ x.q.what = 1 from h3)]; rfl)
  · have bh0 := h0
    repeat (first | replace h0 := yes h0 | replace h0 := no h0 | replace h0 := nyes h0 | replace h0 := nno h0)
    have hkn : n = k := by omega
    subst hkn
    rw [List.take_of_length_le (by simp; omega)]
    refine CW.exit ?_
    refine EX.exitT ?_
    refine EX.exitT ?_
    refine EX.exitB ?_
    refine EX.seq ?_
    refine CW.seq ?_
    refine CW.region ?_
    refine OL.q (Y.move rfl) rfl ?_
    refine OL.q (Y.move rfl) rfl ?_
    refine OL.q (Y.assign rfl) rfl ?_
    refine OL.q (Y.assign rfl) rfl ?_
    refine OL.q (Y.assign rfl) rfl ?_
    refine OL.nil ?_
    refine EX.seq ?_
    refine CW.ret ?_
    exact EX.fin3 [0, 1] rfl rfl rfl rfl rfl ⟨t, r, rfl, rfl⟩
end Go.Proofs.YtmlnnepgigieaaaDoor
