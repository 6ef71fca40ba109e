/- The statement ScoreActs: any acts on a table of scores. -/
import Derived.Test.YthnejajlkijobaaScoreLaw
import Derived.Test.YthnejajlkijobaaScoreRef
namespace Go.Proofs.Ythnejajlkijobaa
open Go.Sx
attribute [local irreducible] isNan below0 keptF lessF highF infD keptO minusF rankF sameF

theorem S60 : TyN Try.prog 60 4 [.int .i64 0, .int .i64 0, .int .i64 0, .int .u64 0] := ⟨Try.isAgg60, Try.sizeOf60, Try.zeroValue60, rfl⟩
theorem C60 : TyC Try.prog 60 4 [.int .i64 0, .int .i64 0, .int .i64 0, .int .u64 0] := S60.c
theorem L60_0 : Fld Try.prog 60 0 0 := ⟨⟨_, Try.underlying60, _, rfl, rfl, 1, by decide, Try.sizeOf3⟩⟩
theorem L60_1 : Fld Try.prog 60 1 1 := ⟨⟨_, Try.underlying60, _, rfl, rfl, 1, by decide, Try.sizeOf3⟩⟩
theorem L60_2 : Fld Try.prog 60 2 2 := ⟨⟨_, Try.underlying60, _, rfl, rfl, 1, by decide, Try.sizeOf3⟩⟩
theorem L60_3 : Fld Try.prog 60 3 3 := ⟨⟨_, Try.underlying60, _, rfl, rfl, 1, by decide, Try.sizeOf49⟩⟩


/-- An act as it lies in memory. -/
structure ActS where
  what : Int
  v : Int
  n : Int
  bits : Int
def actSCells (a : ActS) : List Value := [.int .i64 a.what, .int .i64 a.v, .int .i64 a.n, .int .u64 a.bits]
def ActS.Ok (a : ActS) : Prop := 0 ≤ a.bits ∧ a.bits < 18446744073709551616
/-- Two tables, of the code and of the document, that hold the same. -/
structure Twin (m : Nat) (x : List Nat × Nat × Nat) : Prop where
  len : x.1.length = m
  good : Good x.1
  eqv : eqv x.2.1 x.2.2
theorem nan_sc {m : Nat} {xs : List Nat} {v : Int} (h : ¬ okV m v) : isNan (if okV m v then xs.getD v.toNat 0 else nan1) = true := by
  rw [if_neg h, isNan_eq]; exact nan_nan1


set_option maxRecDepth 10000 in
set_option maxHeartbeats 4000000 in
theorem sacts_any (n : Int) (dc : Nat) (aa la : Option Addr) (an ac ln lc : Nat) (acts : List ActS) (l : List Int) (hacts : acts.length = an) (hl : l.length = ln) (hok : ∀ a ∈ acts, a.Ok) :
    FS Try.prog 5 [.int .i64 n, fl dc, .slice aa an ac, .slice la ln lc] (fun h => rd aa an 4 (acts.map actSCells) h ∧ rd la ln 1 (l.map intCells) h) [] (fun v H => v = .bool true ∧ H = []) := by
  refine FS.intro (N := 195) Try.func5 rfl rfl rfl (fun F w0 hF => ?_)
  refine CW.seq ?_
  refine CW.region ?_
  refine OL.q (Y.assign rfl) rfl ?_
  refine OL.nil ?_
  refine EX.seq ?_
  refine CW.seq ?_
  refine CW.seq ?_
  refine CW.region ?_
  refine OL.call [] (speaks_any) Try.call19 rfl rfl rfl rfl (Ent.nothing _) rfl ?_
  rintro _ _ ⟨rfl, rfl⟩
  refine ⟨rfl, rfl, ?_⟩
  refine OL.q (Y.not rfl) rfl ?_
  refine OL.nil ?_
  refine EX.seq ?_
  refine CW.cond rfl (fun h0 => ?_) (fun h0 => ?_)
  · repeat (first | replace h0 := yes h0 | replace h0 := no h0 | replace h0 := nyes h0 | replace h0 := nno h0)
    exfalso
    contradiction
  repeat (first | replace h0 := yes h0 | replace h0 := no h0 | replace h0 := nyes h0 | replace h0 := nno h0)
  refine CW.skip ?_
  refine EX.seq ?_
  refine CW.seq ?_
  refine CW.seq ?_
  refine CW.region ?_
  refine OL.q (Y.move rfl) rfl ?_
  refine OL.q (Y.gtr rfl rfl) rfl ?_
  refine OL.q (Y.move rfl) rfl ?_
  refine OL.guard (s := 25) rfl (fun g3_2 => ?_) (fun g3_2 => ?_)
  · have ng3_2 := g3_2
    repeat (first | replace ng3_2 := yes ng3_2 | replace ng3_2 := no ng3_2 | replace ng3_2 := nyes ng3_2 | replace ng3_2 := nno ng3_2)
    refine OL.no g3_2 rfl rfl rfl ?_
    refine OL.no g3_2 rfl rfl rfl ?_
    refine OL.no g3_2 rfl rfl rfl ?_
    refine OL.q (Y.pickT rfl g3_2 rfl) rfl ?_
    refine OL.q (Y.move rfl) rfl ?_
    refine OL.guard (s := 30) rfl (fun g3_7 => ?_) (fun g3_7 => ?_)
    · have ng3_7 := g3_7
      repeat (first | replace ng3_7 := yes ng3_7 | replace ng3_7 := no ng3_7 | replace ng3_7 := nyes ng3_7 | replace ng3_7 := nno ng3_7)
      refine OL.no g3_7 rfl rfl rfl ?_
      refine OL.no g3_7 rfl rfl rfl ?_
      refine OL.no g3_7 rfl rfl rfl ?_
      refine OL.q (Y.pickT rfl g3_7 rfl) rfl ?_
      refine OL.nil ?_
      refine EX.seq ?_
      refine CW.cond rfl (fun h1 => ?_) (fun h1 => ?_)
      rotate_left
      · repeat (first | replace h1 := yes h1 | replace h1 := no h1 | replace h1 := nyes h1 | replace h1 := nno h1)
        exfalso
        first | omega | contradiction | exact absurd rfl h1 | exact absurd h1 (by simp) | exact absurd h1 (by decide)
      repeat (first | replace h1 := yes h1 | replace h1 := no h1 | replace h1 := nyes h1 | replace h1 := nno h1)
      refine CW.seq ?_
      refine CW.region ?_
      refine OL.q (Y.assign rfl) rfl ?_
      refine OL.nil ?_
      refine EX.seq ?_
      refine CW.ret ?_
      refine EX.retT ?_
      exact EX.fin1 [] rfl rfl rfl ⟨rfl, rfl⟩
    · have ng3_7 := g3_7
      repeat (first | replace ng3_7 := yes ng3_7 | replace ng3_7 := no ng3_7 | replace ng3_7 := nyes ng3_7 | replace ng3_7 := nno ng3_7)
      refine OL.on g3_7 rfl rfl ?_
      refine OL.q (Y.move rfl) rfl ?_
      refine OL.on g3_7 rfl rfl ?_
      refine OL.q (Y.lenSl Try.underlying28 rfl) rfl ?_
      refine OL.on g3_7 rfl rfl ?_
      refine OL.q (Y.gtr rfl rfl) rfl ?_
      refine OL.q (Y.pickF rfl g3_7 rfl) rfl ?_
      refine OL.nil ?_
      refine EX.seq ?_
      refine CW.cond rfl (fun h1 => ?_) (fun h1 => ?_)
      rotate_left
      · repeat (first | replace h1 := yes h1 | replace h1 := no h1 | replace h1 := nyes h1 | replace h1 := nno h1)
        exfalso
        first | omega | contradiction | exact absurd rfl h1 | exact absurd h1 (by simp) | exact absurd h1 (by decide)
      repeat (first | replace h1 := yes h1 | replace h1 := no h1 | replace h1 := nyes h1 | replace h1 := nno h1)
      refine CW.seq ?_
      refine CW.region ?_
      refine OL.q (Y.assign rfl) rfl ?_
      refine OL.nil ?_
      refine EX.seq ?_
      refine CW.ret ?_
      refine EX.retT ?_
      exact EX.fin1 [] rfl rfl rfl ⟨rfl, rfl⟩
  · have ng3_2 := g3_2
    repeat (first | replace ng3_2 := yes ng3_2 | replace ng3_2 := no ng3_2 | replace ng3_2 := nyes ng3_2 | replace ng3_2 := nno ng3_2)
    refine OL.on g3_2 rfl rfl ?_
    refine OL.q (Y.move rfl) rfl ?_
    refine OL.on g3_2 rfl rfl ?_
    refine OL.q (Y.lenSl Try.underlying56 rfl) rfl ?_
    refine OL.on g3_2 rfl rfl ?_
    refine OL.q (Y.gtr rfl rfl) rfl ?_
    refine OL.q (Y.pickF rfl g3_2 rfl) rfl ?_
    refine OL.q (Y.move rfl) rfl ?_
    refine OL.guard (s := 30) rfl (fun g3_7 => ?_) (fun g3_7 => ?_)
    · have ng3_7 := g3_7
      repeat (first | replace ng3_7 := yes ng3_7 | replace ng3_7 := no ng3_7 | replace ng3_7 := nyes ng3_7 | replace ng3_7 := nno ng3_7)
      refine OL.no g3_7 rfl rfl rfl ?_
      refine OL.no g3_7 rfl rfl rfl ?_
      refine OL.no g3_7 rfl rfl rfl ?_
      refine OL.q (Y.pickT rfl g3_7 rfl) rfl ?_
      refine OL.nil ?_
      refine EX.seq ?_
      refine CW.cond rfl (fun h1 => ?_) (fun h1 => ?_)
      rotate_left
      · repeat (first | replace h1 := yes h1 | replace h1 := no h1 | replace h1 := nyes h1 | replace h1 := nno h1)
        exfalso
        first | omega | contradiction | exact absurd rfl h1 | exact absurd h1 (by simp) | exact absurd h1 (by decide)
      repeat (first | replace h1 := yes h1 | replace h1 := no h1 | replace h1 := nyes h1 | replace h1 := nno h1)
      refine CW.seq ?_
      refine CW.region ?_
      refine OL.q (Y.assign rfl) rfl ?_
      refine OL.nil ?_
      refine EX.seq ?_
      refine CW.ret ?_
      refine EX.retT ?_
      exact EX.fin1 [] rfl rfl rfl ⟨rfl, rfl⟩
    · have ng3_7 := g3_7
      repeat (first | replace ng3_7 := yes ng3_7 | replace ng3_7 := no ng3_7 | replace ng3_7 := nyes ng3_7 | replace ng3_7 := nno ng3_7)
      refine OL.on g3_7 rfl rfl ?_
      refine OL.q (Y.move rfl) rfl ?_
      refine OL.on g3_7 rfl rfl ?_
      refine OL.q (Y.lenSl Try.underlying28 rfl) rfl ?_
      refine OL.on g3_7 rfl rfl ?_
      refine OL.q (Y.gtr rfl rfl) rfl ?_
      refine OL.q (Y.pickF rfl g3_7 rfl) rfl ?_
      refine OL.nil ?_
      refine EX.seq ?_
      refine CW.cond rfl (fun h1 => ?_) (fun h1 => ?_)
      · repeat (first | replace h1 := yes h1 | replace h1 := no h1 | replace h1 := nyes h1 | replace h1 := nno h1)
        refine CW.seq ?_
        refine CW.region ?_
        refine OL.q (Y.assign rfl) rfl ?_
        refine OL.nil ?_
        refine EX.seq ?_
        refine CW.ret ?_
        refine EX.retT ?_
        exact EX.fin1 [] rfl rfl rfl ⟨rfl, rfl⟩
      · repeat (first | replace h1 := yes h1 | replace h1 := no h1 | replace h1 := nyes h1 | replace h1 := nno h1)
        refine CW.skip ?_
        refine EX.seq ?_
        refine CW.seq ?_
        obtain ⟨m, hm, hnm⟩ : ∃ m : Nat, m ≤ 50 ∧ ((0 ≤ n ∧ n = m) ∨ (n < 0 ∧ m = 0)) := ⟨n.toNat, by omega, by omega⟩
        refine CW.region ?_
        refine OL.q (Y.move rfl) rfl ?_
        refine OL.q (Y.move rfl) rfl ?_
        refine OL.call [] (new_any n m dc (by omega) hnm) Try.call20 rfl rfl rfl rfl (Ent.nothing _) rfl ?_
        rintro _ _ ⟨t, a, rfl, rfl⟩
        refine ⟨rfl, rfl, ?_⟩
        refine OL.q (Y.move rfl) rfl ?_
        refine OL.q (Y.move rfl) rfl ?_
        refine OL.call [] (rnew_any n m dc (by omega) hnm) Try.call26 rfl rfl rfl rfl (Ent.nothing _) rfl ?_
        rintro _ _ ⟨r, ra, rfl, rfl⟩
        refine ⟨rfl, rfl, ?_⟩
        refine OL.q (Y.assign rfl) rfl ?_
        refine OL.q (Y.assign rfl) rfl ?_
        refine OL.nil ?_
        refine EX.seq ?_
        refine CW.seq ?_
        refine CW.seq ?_
        refine CW.region ?_
        refine OL.q (Y.move rfl) rfl ?_
        refine OL.q (Y.lenSl Try.underlying56 rfl) rfl ?_
        refine OL.q (Y.move rfl) rfl ?_
        refine OL.nil ?_
        refine EX.seq ?_
        refine CW.block ?_
        generalize decayF dc = dk
        refine CW.loop (α := Nat × List Nat × Nat × Nat) ⟨fun x => x.1 ≤ an ∧ Twin m x.2, fun x => [(3, .slice la ln lc), (9, .pointer (some ⟨t, 0, none⟩)), (10, .pointer (some ⟨r, 0, none⟩)), (41, .slice aa an ac), (42, .int .i64 an), (43, .int .i64 x.1)], fun x => [blk t [.slice a m m, fl x.2.2.1, fl dk] 79, row a m m 48 1 ((x.2.1).map flCells), blk r [.slice ra m m, fl x.2.2.2, fl dk] 63, row ra m m 48 1 ((x.2.1).map flCells)]⟩
          (fun x => an - x.1) (0, List.replicate m 0, one1, one1) [0, 1, 2, 3] ⟨Nat.zero_le _, by simp, good_zero m, .inl rfl⟩ ⟨rfl, rfl, rfl, rfl, rfl, rfl, trivial⟩ rfl rfl ?_
        rintro ⟨i, xs, s1, s2⟩ ⟨hi, hT⟩
        dsimp only at hi ⊢
        refine CW.seq ?_
        refine CW.region ?_
        refine OL.q (Y.lss rfl rfl) rfl ?_
        refine OL.nil ?_
        refine EX.seq ?_
        refine CW.seq ?_
        refine CW.cond rfl (fun h2 => ?_) (fun h2 => ?_)
        · repeat (first | replace h2 := yes h2 | replace h2 := no h2 | replace h2 := nyes h2 | replace h2 := nno h2)
          obtain ⟨⟨w, v, nn, bw⟩, hp⟩ : ∃ p, acts[i]? = some p := ⟨_, List.getElem?_eq_getElem (by omega)⟩
          have hak : (⟨w, v, nn, bw⟩ : ActS).Ok := hok _ (mem_of hp)
          obtain ⟨hb1, hb2⟩ := hak
          dsimp only at hb1 hb2
          refine CW.skip ?_
          refine EX.seq ?_
          refine CW.seq ?_
          refine CW.block ?_
          refine CW.seq ?_
          refine CW.region ?_
          refine OL.q (Y.index Try.underlying56 C60 rfl rfl (Ent.frame (Up.rd _ _ _ _) (fun h hs => (hF h hs).1)) rfl (by omega)) rfl ?_
          refine OL.q (Y.loadN S60 rfl rfl (rd_at (Ent.frame (Up.rd _ _ _ _) (fun h hs => (hF h hs).1)) (mget actSCells hp))) rfl ?_
          refine OL.alloc C60 rfl (fun b12 => ⟨rfl, rfl, ?_⟩)
          first | refine OL.storeAll 0 rfl C60 rfl rfl rfl rfl rfl rfl ⟨rfl, rfl, ?_⟩ | refine OL.storeAll 1 rfl C60 rfl rfl rfl rfl rfl rfl ⟨rfl, rfl, ?_⟩ | refine OL.storeAll 2 rfl C60 rfl rfl rfl rfl rfl rfl ⟨rfl, rfl, ?_⟩ | refine OL.storeAll 3 rfl C60 rfl rfl rfl rfl rfl rfl ⟨rfl, rfl, ?_⟩ | refine OL.storeAll 4 rfl C60 rfl rfl rfl rfl rfl rfl ⟨rfl, rfl, ?_⟩ | refine OL.storeAll 5 rfl C60 rfl rfl rfl rfl rfl rfl ⟨rfl, rfl, ?_⟩
          refine OL.nil ?_
          refine EX.seq ?_
          generalize hba : b12 = ba
          refine CW.cut (α := Unit) ⟨fun _ => True, fun _ => [(3, .slice la ln lc), (9, .pointer (some ⟨t, 0, none⟩)), (10, .pointer (some ⟨r, 0, none⟩)), (41, .slice aa an ac), (42, .int .i64 an), (43, .int .i64 i), (12, .pointer (some ⟨ba, 0, none⟩)), (13, .bool (decide (okV m v)))], fun _ => [blk t [.slice a m m, fl s1, fl dk] 79, row a m m 48 1 ((xs).map flCells), blk r [.slice ra m m, fl s2, fl dk] 63, row ra m m 48 1 ((xs).map flCells), blk ba [.int .i64 w, .int .i64 v, .int .i64 nn, .int .u64 bw] 60]⟩ ?_ ?_
          ·
            refine CW.drawn [(true, 0), (true, 1), (true, 2), (true, 3), (true, 4), (true, 5), (true, 6), (true, 7), (true, 8), (true, 9), (true, 10), (true, 11), (true, 12)] [13] [2, 4] mixed (by kernel_rfl) (by repeat (first | exact PanicOk.body | refine PanicOk.then ?_ | refine PanicOk.block ?_)) (by kernel_rfl) rfl rfl rfl rfl ?_
            refine OL.qt (Y.field L60_1 rfl) rfl ?_
            first | refine OL.qt (Y.load T3 rfl (Ent.at 0 rfl (Up.cellIs _ _ _) (blk_cell rfl))) rfl ?_ | refine OL.qt (Y.load T3 rfl (Ent.at 1 rfl (Up.cellIs _ _ _) (blk_cell rfl))) rfl ?_ | refine OL.qt (Y.load T3 rfl (Ent.at 2 rfl (Up.cellIs _ _ _) (blk_cell rfl))) rfl ?_ | refine OL.qt (Y.load T3 rfl (Ent.at 3 rfl (Up.cellIs _ _ _) (blk_cell rfl))) rfl ?_ | refine OL.qt (Y.load T3 rfl (Ent.at 4 rfl (Up.cellIs _ _ _) (blk_cell rfl))) rfl ?_ | refine OL.qt (Y.load T3 rfl (Ent.at 5 rfl (Up.cellIs _ _ _) (blk_cell rfl))) rfl ?_
            refine OL.qt (Y.geq rfl rfl) rfl ?_
            refine OL.qt (Y.move rfl) rfl ?_
            refine OL.guard (s := 50) rfl (fun g9_3 => ?_) (fun g9_3 => ?_)
            · have ng9_3 := g9_3
              repeat (first | replace ng9_3 := yes ng9_3 | replace ng9_3 := no ng9_3 | replace ng9_3 := nyes ng9_3 | replace ng9_3 := nno ng9_3)
              refine OL.ont g9_3 rfl rfl ?_
              refine OL.qt (Y.field L60_1 rfl) rfl ?_
              refine OL.ont g9_3 rfl rfl ?_
              first | refine OL.qt (Y.load T3 rfl (Ent.at 0 rfl (Up.cellIs _ _ _) (blk_cell rfl))) rfl ?_ | refine OL.qt (Y.load T3 rfl (Ent.at 1 rfl (Up.cellIs _ _ _) (blk_cell rfl))) rfl ?_ | refine OL.qt (Y.load T3 rfl (Ent.at 2 rfl (Up.cellIs _ _ _) (blk_cell rfl))) rfl ?_ | refine OL.qt (Y.load T3 rfl (Ent.at 3 rfl (Up.cellIs _ _ _) (blk_cell rfl))) rfl ?_ | refine OL.qt (Y.load T3 rfl (Ent.at 4 rfl (Up.cellIs _ _ _) (blk_cell rfl))) rfl ?_ | refine OL.qt (Y.load T3 rfl (Ent.at 5 rfl (Up.cellIs _ _ _) (blk_cell rfl))) rfl ?_
              refine OL.ont g9_3 rfl rfl ?_
              refine OL.qt (Y.move rfl) rfl ?_
              refine OL.ont g9_3 rfl rfl ?_
              refine OL.qt (Y.nilCheck rfl) rfl ?_
              refine OL.ont g9_3 rfl rfl ?_
              refine OL.qt (Y.field L63_0 rfl) rfl ?_
              refine OL.ont g9_3 rfl rfl ?_
              first | refine OL.qt (Y.load T61 rfl (Ent.at 0 rfl (Up.cellIs _ _ _) (blk_cell rfl))) rfl ?_ | refine OL.qt (Y.load T61 rfl (Ent.at 1 rfl (Up.cellIs _ _ _) (blk_cell rfl))) rfl ?_ | refine OL.qt (Y.load T61 rfl (Ent.at 2 rfl (Up.cellIs _ _ _) (blk_cell rfl))) rfl ?_ | refine OL.qt (Y.load T61 rfl (Ent.at 3 rfl (Up.cellIs _ _ _) (blk_cell rfl))) rfl ?_ | refine OL.qt (Y.load T61 rfl (Ent.at 4 rfl (Up.cellIs _ _ _) (blk_cell rfl))) rfl ?_ | refine OL.qt (Y.load T61 rfl (Ent.at 5 rfl (Up.cellIs _ _ _) (blk_cell rfl))) rfl ?_
              refine OL.ont g9_3 rfl rfl ?_
              refine OL.qt (Y.lenSl Try.underlying61 rfl) rfl ?_
              refine OL.ont g9_3 rfl rfl ?_
              refine OL.qt (Y.lss rfl rfl) rfl ?_
              refine OL.qt (Y.pickT rfl g9_3 rfl) rfl ?_
              refine OL.nil ?_
              refine EX.tail ?_
              refine OL.q (Y.assign rfl) rfl ?_
              refine OL.nil ?_
              exact EX.meet () [0, 1, 2, 3, 4] trivial ⟨rfl, rfl, rfl, rfl, rfl, rfl, rfl, (by rw [show decide (okV m v) = decide (v < m) by simp [okV, ng9_3]]; rfl), trivial⟩ rfl rfl
            · have ng9_3 := g9_3
              repeat (first | replace ng9_3 := yes ng9_3 | replace ng9_3 := no ng9_3 | replace ng9_3 := nyes ng9_3 | replace ng9_3 := nno ng9_3)
              refine OL.tno g9_3 rfl rfl rfl ?_
              refine OL.tno g9_3 rfl rfl rfl ?_
              refine OL.tno g9_3 rfl rfl rfl ?_
              refine OL.tno g9_3 rfl rfl rfl ?_
              refine OL.tno g9_3 rfl rfl rfl ?_
              refine OL.tno g9_3 rfl rfl rfl ?_
              refine OL.tno g9_3 rfl rfl rfl ?_
              refine OL.tno g9_3 rfl rfl rfl ?_
              refine OL.qt (Y.pickF rfl g9_3 rfl) rfl ?_
              refine OL.nil ?_
              refine EX.tail ?_
              refine OL.q (Y.assign rfl) rfl ?_
              refine OL.nil ?_
              exact EX.meet () [0, 1, 2, 3, 4] trivial ⟨rfl, rfl, rfl, rfl, rfl, rfl, rfl, (by rw [show decide (okV m v) = false by simp [okV, ng9_3]]; rfl), trivial⟩ rfl rfl
          ·
            rintro ⟨⟩ _
            dsimp only
            refine CW.cut (α := List Nat × Nat × Nat) ⟨fun x => Twin m x, fun x => [(3, .slice la ln lc), (9, .pointer (some ⟨t, 0, none⟩)), (10, .pointer (some ⟨r, 0, none⟩)), (41, .slice aa an ac), (42, .int .i64 an), (43, .int .i64 i)], fun x => [blk t [.slice a m m, fl x.2.1, fl dk] 79, row a m m 48 1 ((x.1).map flCells), blk r [.slice ra m m, fl x.2.2, fl dk] 63, row ra m m 48 1 ((x.1).map flCells)]⟩ ?_ ?_
            ·
              refine CW.seq ?_
              refine CW.region ?_
              refine OL.q (Y.field L60_0 rfl) rfl ?_
              first | refine OL.q (Y.load T3 rfl (Ent.at 0 rfl (Up.cellIs _ _ _) (blk_cell rfl))) rfl ?_ | refine OL.q (Y.load T3 rfl (Ent.at 1 rfl (Up.cellIs _ _ _) (blk_cell rfl))) rfl ?_ | refine OL.q (Y.load T3 rfl (Ent.at 2 rfl (Up.cellIs _ _ _) (blk_cell rfl))) rfl ?_ | refine OL.q (Y.load T3 rfl (Ent.at 3 rfl (Up.cellIs _ _ _) (blk_cell rfl))) rfl ?_ | refine OL.q (Y.load T3 rfl (Ent.at 4 rfl (Up.cellIs _ _ _) (blk_cell rfl))) rfl ?_ | refine OL.q (Y.load T3 rfl (Ent.at 5 rfl (Up.cellIs _ _ _) (blk_cell rfl))) rfl ?_
              refine OL.nil ?_
              refine EX.seq ?_
              refine CW.block ?_
              refine CW.seq ?_
              refine CW.region ?_
              refine OL.q (Y.eql rfl rfl) rfl ?_
              refine OL.q (Y.assign rfl) rfl ?_
              refine OL.nil ?_
              refine EX.seq ?_
              refine CW.cond rfl (fun h3 => ?_) (fun h3 => ?_)
              · repeat (first | replace h3 := yes h3 | replace h3 := no h3 | replace h3 := nyes h3 | replace h3 := nno h3)
                refine CW.seq ?_
                refine CW.seq ?_
                rcases Classical.em (okV m v) with hv | hv
                · obtain ⟨k, rfl⟩ := Int.eq_ofNat_of_zero_le hv.1
                  have hk : k < m := by have := hv.2; omega
                  refine CW.region ?_
                  refine OL.q (Y.move rfl) rfl ?_
                  refine OL.q (Y.field L60_1 rfl) rfl ?_
                  first | refine OL.q (Y.load T3 rfl (Ent.at 0 rfl (Up.cellIs _ _ _) (blk_cell rfl))) rfl ?_ | refine OL.q (Y.load T3 rfl (Ent.at 1 rfl (Up.cellIs _ _ _) (blk_cell rfl))) rfl ?_ | refine OL.q (Y.load T3 rfl (Ent.at 2 rfl (Up.cellIs _ _ _) (blk_cell rfl))) rfl ?_ | refine OL.q (Y.load T3 rfl (Ent.at 3 rfl (Up.cellIs _ _ _) (blk_cell rfl))) rfl ?_ | refine OL.q (Y.load T3 rfl (Ent.at 4 rfl (Up.cellIs _ _ _) (blk_cell rfl))) rfl ?_ | refine OL.q (Y.load T3 rfl (Ent.at 5 rfl (Up.cellIs _ _ _) (blk_cell rfl))) rfl ?_
                  refine OL.call [0, 1] (bump_ok t a m m xs s1 dk k hT.len hk hT.good (by omega)) Try.call27 rfl rfl rfl rfl (Ent.nothing _) rfl ?_
                  rintro _ _ ⟨rfl, z1, q1, rfl⟩
                  refine ⟨rfl, rfl, ?_⟩
                  refine OL.q (Y.move rfl) rfl ?_
                  refine OL.q (Y.neqB Try.underlying4 rfl rfl) rfl ?_
                  refine OL.nil ?_
                  refine EX.seq ?_
                  refine CW.cond rfl (fun h4 => ?_) (fun h4 => ?_)
                  · repeat (first | replace h4 := yes h4 | replace h4 := no h4 | replace h4 := nyes h4 | replace h4 := nno h4)
                    exfalso
                    simp [hv] at h4
                  repeat (first | replace h4 := yes h4 | replace h4 := no h4 | replace h4 := nyes h4 | replace h4 := nno h4)
                  refine CW.skip ?_
                  refine EX.seq ?_
                  refine CW.seq ?_
                  refine CW.region ?_
                  refine OL.q (Y.move rfl) rfl ?_
                  refine OL.nil ?_
                  refine EX.seq ?_
                  refine CW.cond rfl (fun h5 => ?_) (fun h5 => ?_)
                  rotate_left
                  · repeat (first | replace h5 := yes h5 | replace h5 := no h5 | replace h5 := nyes h5 | replace h5 := nno h5)
                    exfalso
                    simp [hv] at h5
                  repeat (first | replace h5 := yes h5 | replace h5 := no h5 | replace h5 := nyes h5 | replace h5 := nno h5)
                  refine CW.region ?_
                  refine OL.q (Y.move rfl) rfl ?_
                  refine OL.q (Y.field L60_1 rfl) rfl ?_
                  first | refine OL.q (Y.load T3 rfl (Ent.at 0 rfl (Up.cellIs _ _ _) (blk_cell rfl))) rfl ?_ | refine OL.q (Y.load T3 rfl (Ent.at 1 rfl (Up.cellIs _ _ _) (blk_cell rfl))) rfl ?_ | refine OL.q (Y.load T3 rfl (Ent.at 2 rfl (Up.cellIs _ _ _) (blk_cell rfl))) rfl ?_ | refine OL.q (Y.load T3 rfl (Ent.at 3 rfl (Up.cellIs _ _ _) (blk_cell rfl))) rfl ?_ | refine OL.q (Y.load T3 rfl (Ent.at 4 rfl (Up.cellIs _ _ _) (blk_cell rfl))) rfl ?_ | refine OL.q (Y.load T3 rfl (Ent.at 5 rfl (Up.cellIs _ _ _) (blk_cell rfl))) rfl ?_
                  refine OL.call [2, 3] (rbump_any r ra m m xs s2 dk k hT.len hk hT.good (by omega)) Try.call28 rfl rfl rfl rfl (Ent.nothing _) rfl ?_
                  rintro _ _ ⟨rfl, z2, q2, rfl⟩
                  refine ⟨rfl, rfl, ?_⟩
                  refine OL.nil ?_
                  refine EX.norB ?_
                  obtain ⟨e1, e2⟩ := bump_eqvs (xs := xs) (k := k) hT.eqv
                  rw [← e2] at q2
                  rw [← e1]
                  exact EX.meet (bumpX xs k s1, z1, z2) [0, 1, 2, 3] (⟨by rw [bump_len]; exact hT.len, bump_good hT.good _ _, step_eqv hT.eqv q1 q2⟩) ⟨rfl, rfl, rfl, rfl, rfl, rfl, trivial⟩ rfl rfl
                · skip
                  refine CW.region ?_
                  refine OL.q (Y.move rfl) rfl ?_
                  refine OL.q (Y.field L60_1 rfl) rfl ?_
                  first | refine OL.q (Y.load T3 rfl (Ent.at 0 rfl (Up.cellIs _ _ _) (blk_cell rfl))) rfl ?_ | refine OL.q (Y.load T3 rfl (Ent.at 1 rfl (Up.cellIs _ _ _) (blk_cell rfl))) rfl ?_ | refine OL.q (Y.load T3 rfl (Ent.at 2 rfl (Up.cellIs _ _ _) (blk_cell rfl))) rfl ?_ | refine OL.q (Y.load T3 rfl (Ent.at 3 rfl (Up.cellIs _ _ _) (blk_cell rfl))) rfl ?_ | refine OL.q (Y.load T3 rfl (Ent.at 4 rfl (Up.cellIs _ _ _) (blk_cell rfl))) rfl ?_ | refine OL.q (Y.load T3 rfl (Ent.at 5 rfl (Up.cellIs _ _ _) (blk_cell rfl))) rfl ?_
                  refine OL.call [0, 1] (bump_no t a m m xs s1 dk v hT.len hv) Try.call27 rfl rfl rfl rfl (Ent.nothing _) rfl ?_
                  rintro _ _ ⟨rfl, rfl⟩
                  refine ⟨rfl, rfl, ?_⟩
                  refine OL.q (Y.move rfl) rfl ?_
                  refine OL.q (Y.neqB Try.underlying4 rfl rfl) rfl ?_
                  refine OL.nil ?_
                  refine EX.seq ?_
                  refine CW.cond rfl (fun h4 => ?_) (fun h4 => ?_)
                  · repeat (first | replace h4 := yes h4 | replace h4 := no h4 | replace h4 := nyes h4 | replace h4 := nno h4)
                    exfalso
                    simp [hv] at h4
                  repeat (first | replace h4 := yes h4 | replace h4 := no h4 | replace h4 := nyes h4 | replace h4 := nno h4)
                  refine CW.skip ?_
                  refine EX.seq ?_
                  refine CW.seq ?_
                  refine CW.region ?_
                  refine OL.q (Y.move rfl) rfl ?_
                  refine OL.nil ?_
                  refine EX.seq ?_
                  refine CW.cond rfl (fun h5 => ?_) (fun h5 => ?_)
                  · repeat (first | replace h5 := yes h5 | replace h5 := no h5 | replace h5 := nyes h5 | replace h5 := nno h5)
                    exfalso
                    simp [hv] at h5
                  repeat (first | replace h5 := yes h5 | replace h5 := no h5 | replace h5 := nyes h5 | replace h5 := nno h5)
                  refine CW.skip ?_
                  refine EX.norB ?_
                  exact EX.meet (xs, s1, s2) [0, 1, 2, 3] (hT) ⟨rfl, rfl, rfl, rfl, rfl, rfl, trivial⟩ rfl rfl
              · repeat (first | replace h3 := yes h3 | replace h3 := no h3 | replace h3 := nyes h3 | replace h3 := nno h3)
                refine CW.seq ?_
                refine CW.region ?_
                refine OL.q (Y.eql rfl rfl) rfl ?_
                refine OL.q (Y.assign rfl) rfl ?_
                refine OL.nil ?_
                refine EX.seq ?_
                refine CW.cond rfl (fun h6 => ?_) (fun h6 => ?_)
                · repeat (first | replace h6 := yes h6 | replace h6 := no h6 | replace h6 := nyes h6 | replace h6 := nno h6)
                  refine CW.seq ?_
                  refine CW.region ?_
                  refine OL.q (Y.move rfl) rfl ?_
                  refine OL.call [0, 1] (fade_any t a m m xs s1 dk hT.len hT.good (by omega)) Try.call29 rfl rfl rfl rfl (Ent.nothing _) rfl ?_
                  rintro _ _ ⟨rfl, z1, x1, q1, rfl⟩
                  refine ⟨rfl, rfl, ?_⟩
                  refine OL.nil ?_
                  refine EX.seq ?_
                  refine CW.region ?_
                  refine OL.q (Y.move rfl) rfl ?_
                  refine OL.call [2, 3] (rfade_any r ra m m xs s2 dk hT.len hT.good (by omega)) Try.call30 rfl rfl rfl rfl (Ent.nothing _) rfl ?_
                  rintro _ _ ⟨rfl, z2, x2, q2, rfl⟩
                  refine ⟨rfl, rfl, ?_⟩
                  refine OL.nil ?_
                  refine EX.norB ?_
                  obtain ⟨rfl, he⟩ := fade_eqv hT.eqv q1 q2
                  obtain ⟨hg, hle⟩ := fade_good hT.good q1
                  exact EX.meet (x1, z1, z2) [0, 1, 2, 3] (⟨by rw [hle]; exact hT.len, hg, he⟩) ⟨rfl, rfl, rfl, rfl, rfl, rfl, trivial⟩ rfl rfl
                · repeat (first | replace h6 := yes h6 | replace h6 := no h6 | replace h6 := nyes h6 | replace h6 := nno h6)
                  refine CW.seq ?_
                  refine CW.region ?_
                  refine OL.q (Y.eql rfl rfl) rfl ?_
                  refine OL.q (Y.assign rfl) rfl ?_
                  refine OL.nil ?_
                  refine EX.seq ?_
                  refine CW.cond rfl (fun h7 => ?_) (fun h7 => ?_)
                  · repeat (first | replace h7 := yes h7 | replace h7 := no h7 | replace h7 := nyes h7 | replace h7 := nno h7)
                    refine CW.seq ?_
                    refine CW.region ?_
                    refine OL.q (Y.field L60_3 rfl) rfl ?_
                    first | refine OL.q (Y.load T49 rfl (Ent.at 0 rfl (Up.cellIs _ _ _) (blk_cell rfl))) rfl ?_ | refine OL.q (Y.load T49 rfl (Ent.at 1 rfl (Up.cellIs _ _ _) (blk_cell rfl))) rfl ?_ | refine OL.q (Y.load T49 rfl (Ent.at 2 rfl (Up.cellIs _ _ _) (blk_cell rfl))) rfl ?_ | refine OL.q (Y.load T49 rfl (Ent.at 3 rfl (Up.cellIs _ _ _) (blk_cell rfl))) rfl ?_ | refine OL.q (Y.load T49 rfl (Ent.at 4 rfl (Up.cellIs _ _ _) (blk_cell rfl))) rfl ?_ | refine OL.q (Y.load T49 rfl (Ent.at 5 rfl (Up.cellIs _ _ _) (blk_cell rfl))) rfl ?_
                    refine OL.call [] (of_any bw) Try.call22 rfl rfl rfl rfl (Ent.nothing _) rfl ?_
                    rintro _ _ ⟨rfl, rfl⟩
                    refine ⟨rfl, rfl, ?_⟩
                    refine OL.q (Y.assign rfl) rfl ?_
                    refine OL.nil ?_
                    refine EX.seq ?_
                    refine CW.seq ?_
                    refine CW.seq ?_
                    rcases Classical.em (okV m v) with hv | hv
                    · obtain ⟨k, rfl⟩ := Int.eq_ofNat_of_zero_le hv.1
                      have hk : k < m := by have := hv.2; omega
                      obtain ⟨x0, hx0⟩ : ∃ p, xs[k]? = some p := ⟨_, List.getElem?_eq_getElem (by have : xs.length = m := hT.len; omega)⟩
                      refine CW.region ?_
                      refine OL.q (Y.move rfl) rfl ?_
                      refine OL.q (Y.field L60_1 rfl) rfl ?_
                      first | refine OL.q (Y.load T3 rfl (Ent.at 0 rfl (Up.cellIs _ _ _) (blk_cell rfl))) rfl ?_ | refine OL.q (Y.load T3 rfl (Ent.at 1 rfl (Up.cellIs _ _ _) (blk_cell rfl))) rfl ?_ | refine OL.q (Y.load T3 rfl (Ent.at 2 rfl (Up.cellIs _ _ _) (blk_cell rfl))) rfl ?_ | refine OL.q (Y.load T3 rfl (Ent.at 3 rfl (Up.cellIs _ _ _) (blk_cell rfl))) rfl ?_ | refine OL.q (Y.load T3 rfl (Ent.at 4 rfl (Up.cellIs _ _ _) (blk_cell rfl))) rfl ?_ | refine OL.q (Y.load T3 rfl (Ent.at 5 rfl (Up.cellIs _ _ _) (blk_cell rfl))) rfl ?_
                      refine OL.q (Y.move rfl) rfl ?_
                      refine OL.call [0, 1] (set_any t a m m xs s1 dk k bw.toNat hT.len) Try.call21 rfl rfl rfl rfl (Ent.nothing _) rfl ?_
                      rw [if_pos hv, decide_eq_true hv, Int.toNat_natCast]
                      rintro _ _ ⟨rfl, rfl⟩
                      refine ⟨rfl, rfl, ?_⟩
                      refine OL.q (Y.move rfl) rfl ?_
                      refine OL.q (Y.neqB Try.underlying4 rfl rfl) rfl ?_
                      refine OL.nil ?_
                      refine EX.seq ?_
                      refine CW.cond rfl (fun h8 => ?_) (fun h8 => ?_)
                      · repeat (first | replace h8 := yes h8 | replace h8 := no h8 | replace h8 := nyes h8 | replace h8 := nno h8)
                        exfalso
                        simp at h8
                      repeat (first | replace h8 := yes h8 | replace h8 := no h8 | replace h8 := nyes h8 | replace h8 := nno h8)
                      refine CW.skip ?_
                      refine EX.seq ?_
                      refine CW.seq ?_
                      refine CW.region ?_
                      refine OL.q (Y.move rfl) rfl ?_
                      refine OL.nil ?_
                      refine EX.seq ?_
                      refine CW.cond rfl (fun h9 => ?_) (fun h9 => ?_)
                      rotate_left
                      · repeat (first | replace h9 := yes h9 | replace h9 := no h9 | replace h9 := nyes h9 | replace h9 := nno h9)
                        exfalso
                        simp at h9
                      repeat (first | replace h9 := yes h9 | replace h9 := no h9 | replace h9 := nyes h9 | replace h9 := nno h9)
                      refine CW.drawn [(true, 0), (true, 1), (true, 2), (true, 3), (true, 4), (true, 5), (true, 6), (false, 7)] [8, 9] [2, 4] mixed (by kernel_rfl) (by repeat (first | exact PanicOk.body | refine PanicOk.then ?_ | refine PanicOk.block ?_)) (by kernel_rfl) rfl rfl rfl rfl ?_
                      refine OL.qt (Y.move rfl) rfl ?_
                      refine OL.qt (Y.nilCheck rfl) rfl ?_
                      refine OL.qt (Y.field L63_0 rfl) rfl ?_
                      first | refine OL.qt (Y.load T61 rfl (Ent.at 0 rfl (Up.cellIs _ _ _) (blk_cell rfl))) rfl ?_ | refine OL.qt (Y.load T61 rfl (Ent.at 1 rfl (Up.cellIs _ _ _) (blk_cell rfl))) rfl ?_ | refine OL.qt (Y.load T61 rfl (Ent.at 2 rfl (Up.cellIs _ _ _) (blk_cell rfl))) rfl ?_ | refine OL.qt (Y.load T61 rfl (Ent.at 3 rfl (Up.cellIs _ _ _) (blk_cell rfl))) rfl ?_ | refine OL.qt (Y.load T61 rfl (Ent.at 4 rfl (Up.cellIs _ _ _) (blk_cell rfl))) rfl ?_ | refine OL.qt (Y.load T61 rfl (Ent.at 5 rfl (Up.cellIs _ _ _) (blk_cell rfl))) rfl ?_
                      refine OL.qt (Y.field L60_1 rfl) rfl ?_
                      first | refine OL.qt (Y.load T3 rfl (Ent.at 0 rfl (Up.cellIs _ _ _) (blk_cell rfl))) rfl ?_ | refine OL.qt (Y.load T3 rfl (Ent.at 1 rfl (Up.cellIs _ _ _) (blk_cell rfl))) rfl ?_ | refine OL.qt (Y.load T3 rfl (Ent.at 2 rfl (Up.cellIs _ _ _) (blk_cell rfl))) rfl ?_ | refine OL.qt (Y.load T3 rfl (Ent.at 3 rfl (Up.cellIs _ _ _) (blk_cell rfl))) rfl ?_ | refine OL.qt (Y.load T3 rfl (Ent.at 4 rfl (Up.cellIs _ _ _) (blk_cell rfl))) rfl ?_ | refine OL.qt (Y.load T3 rfl (Ent.at 5 rfl (Up.cellIs _ _ _) (blk_cell rfl))) rfl ?_
                      refine OL.qt (Y.move rfl) rfl ?_
                      refine OL.call [] (rplain_any bw.toNat) Try.call31 rfl rfl rfl rfl (Ent.nothing _) rfl ?_
                      rintro _ _ ⟨rfl, rfl⟩
                      refine ⟨rfl, rfl, ?_⟩
                      refine OL.nil ?_
                      refine EX.tail ?_
                      refine OL.q (Y.index (k := k) Try.underlying61 C48 rfl rfl (Ent.at 3 rfl (Up.rd _ _ _ _) row_rd) rfl hk) rfl ?_
                      refine OL.storeRow (k := k) (j := 0) 3 rfl C48 rfl rfl (by omega) rfl rfl rfl (mget flCells hx0) (by simp [flCells]) ⟨rfl, rfl, ?_⟩
                      refine OL.nil ?_
                      refine EX.norB ?_
                      rw [set_flat]
                      exact EX.meet (xs.set k (keptF bw.toNat), s1, s2) [0, 1, 2, 3] (⟨by simpa using hT.len, good_set hT.good _ (kept_good (by omega)), hT.eqv⟩) ⟨rfl, rfl, rfl, rfl, rfl, rfl, trivial⟩ rfl rfl
                    · skip
                      refine CW.region ?_
                      refine OL.q (Y.move rfl) rfl ?_
                      refine OL.q (Y.field L60_1 rfl) rfl ?_
                      first | refine OL.q (Y.load T3 rfl (Ent.at 0 rfl (Up.cellIs _ _ _) (blk_cell rfl))) rfl ?_ | refine OL.q (Y.load T3 rfl (Ent.at 1 rfl (Up.cellIs _ _ _) (blk_cell rfl))) rfl ?_ | refine OL.q (Y.load T3 rfl (Ent.at 2 rfl (Up.cellIs _ _ _) (blk_cell rfl))) rfl ?_ | refine OL.q (Y.load T3 rfl (Ent.at 3 rfl (Up.cellIs _ _ _) (blk_cell rfl))) rfl ?_ | refine OL.q (Y.load T3 rfl (Ent.at 4 rfl (Up.cellIs _ _ _) (blk_cell rfl))) rfl ?_ | refine OL.q (Y.load T3 rfl (Ent.at 5 rfl (Up.cellIs _ _ _) (blk_cell rfl))) rfl ?_
                      refine OL.q (Y.move rfl) rfl ?_
                      refine OL.call [0, 1] (set_any t a m m xs s1 dk v bw.toNat hT.len) Try.call21 rfl rfl rfl rfl (Ent.nothing _) rfl ?_
                      rw [if_neg hv, decide_eq_false hv]
                      rintro _ _ ⟨rfl, rfl⟩
                      refine ⟨rfl, rfl, ?_⟩
                      refine OL.q (Y.move rfl) rfl ?_
                      refine OL.q (Y.neqB Try.underlying4 rfl rfl) rfl ?_
                      refine OL.nil ?_
                      refine EX.seq ?_
                      refine CW.cond rfl (fun h8 => ?_) (fun h8 => ?_)
                      · repeat (first | replace h8 := yes h8 | replace h8 := no h8 | replace h8 := nyes h8 | replace h8 := nno h8)
                        exfalso
                        simp at h8
                      repeat (first | replace h8 := yes h8 | replace h8 := no h8 | replace h8 := nyes h8 | replace h8 := nno h8)
                      refine CW.skip ?_
                      refine EX.seq ?_
                      refine CW.seq ?_
                      refine CW.region ?_
                      refine OL.q (Y.move rfl) rfl ?_
                      refine OL.nil ?_
                      refine EX.seq ?_
                      refine CW.cond rfl (fun h9 => ?_) (fun h9 => ?_)
                      · repeat (first | replace h9 := yes h9 | replace h9 := no h9 | replace h9 := nyes h9 | replace h9 := nno h9)
                        exfalso
                        simp at h9
                      repeat (first | replace h9 := yes h9 | replace h9 := no h9 | replace h9 := nyes h9 | replace h9 := nno h9)
                      refine CW.skip ?_
                      refine EX.norB ?_
                      exact EX.meet (xs, s1, s2) [0, 1, 2, 3] (hT) ⟨rfl, rfl, rfl, rfl, rfl, rfl, trivial⟩ rfl rfl
                  · repeat (first | replace h7 := yes h7 | replace h7 := no h7 | replace h7 := nyes h7 | replace h7 := nno h7)
                    refine CW.seq ?_
                    refine CW.region ?_
                    refine OL.q (Y.assign rfl) rfl ?_
                    refine OL.nil ?_
                    refine EX.seq ?_
                    refine CW.block ?_
                    have hbd := bounds_i64 (wf_bits .and .i64 nn 2047)
                    refine CW.loop (α := Int × List Nat × Nat × Nat) ⟨fun x => Twin m x.2 ∧ 0 ≤ x.1, fun x => [(3, .slice la ln lc), (9, .pointer (some ⟨t, 0, none⟩)), (10, .pointer (some ⟨r, 0, none⟩)), (41, .slice aa an ac), (42, .int .i64 an), (43, .int .i64 i), (12, .pointer (some ⟨ba, 0, none⟩)), (15, .int .i64 x.1)], fun x => [blk t [.slice a m m, fl x.2.2.1, fl dk] 79, row a m m 48 1 ((x.2.1).map flCells), blk r [.slice ra m m, fl x.2.2.2, fl dk] 63, row ra m m 48 1 ((x.2.1).map flCells), blk ba [.int .i64 w, .int .i64 v, .int .i64 nn, .int .u64 bw] 60]⟩
                      (fun x => (bits .and .i64 nn 2047 - x.1).toNat) (0, xs, s1, s2) [0, 1, 2, 3, 4] ⟨hT, Int.le_refl _⟩ ⟨rfl, rfl, rfl, rfl, rfl, rfl, rfl, rfl, trivial⟩ rfl rfl ?_
                    clear hT
                    rintro ⟨j, xs, s1, s2⟩ ⟨hT, hj⟩
                    dsimp only at hj ⊢
                    refine CW.seq ?_
                    refine CW.seq ?_
                    refine CW.region ?_
                    refine OL.q (Y.move rfl) rfl ?_
                    refine OL.q (Y.field L60_2 rfl) rfl ?_
                    first | refine OL.q (Y.load T3 rfl (Ent.at 0 rfl (Up.cellIs _ _ _) (blk_cell rfl))) rfl ?_ | refine OL.q (Y.load T3 rfl (Ent.at 1 rfl (Up.cellIs _ _ _) (blk_cell rfl))) rfl ?_ | refine OL.q (Y.load T3 rfl (Ent.at 2 rfl (Up.cellIs _ _ _) (blk_cell rfl))) rfl ?_ | refine OL.q (Y.load T3 rfl (Ent.at 3 rfl (Up.cellIs _ _ _) (blk_cell rfl))) rfl ?_ | refine OL.q (Y.load T3 rfl (Ent.at 4 rfl (Up.cellIs _ _ _) (blk_cell rfl))) rfl ?_ | refine OL.q (Y.load T3 rfl (Ent.at 5 rfl (Up.cellIs _ _ _) (blk_cell rfl))) rfl ?_
                    refine OL.q (Y.and rfl rfl) rfl ?_
                    refine OL.q (Y.lss rfl rfl) rfl ?_
                    refine OL.nil ?_
                    refine EX.seq ?_
                    refine CW.cond rfl (fun h10 => ?_) (fun h10 => ?_)
                    · repeat (first | replace h10 := yes h10 | replace h10 := no h10 | replace h10 := nyes h10 | replace h10 := nno h10)
                      refine CW.skip ?_
                      refine EX.seq ?_
                      refine CW.seq ?_
                      refine CW.block ?_
                      refine CW.seq ?_
                      refine CW.region ?_
                      refine OL.q (Y.move rfl) rfl ?_
                      refine OL.call [0, 1] (fade_any t a m m xs s1 dk hT.len hT.good (by omega)) Try.call29 rfl rfl rfl rfl (Ent.nothing _) rfl ?_
                      rintro _ _ ⟨rfl, z1, x1, q1, rfl⟩
                      refine ⟨rfl, rfl, ?_⟩
                      refine OL.nil ?_
                      refine EX.seq ?_
                      refine CW.region ?_
                      refine OL.q (Y.move rfl) rfl ?_
                      refine OL.call [2, 3] (rfade_any r ra m m xs s2 dk hT.len hT.good (by omega)) Try.call30 rfl rfl rfl rfl (Ent.nothing _) rfl ?_
                      rintro _ _ ⟨rfl, z2, x2, q2, rfl⟩
                      refine ⟨rfl, rfl, ?_⟩
                      refine OL.nil ?_
                      refine EX.norB ?_
                      refine EX.seq ?_
                      refine CW.region ?_
                      refine OL.q (Y.move rfl) rfl ?_
                      first | refine OL.q (Y.add1 rfl rfl rfl (by omega)) rfl ?_ | refine OL.q (Y.addN rfl rfl (by omega)) rfl ?_ | refine OL.q (Y.add rfl rfl (by omega)) rfl ?_
                      refine OL.q (Y.assign rfl) rfl ?_
                      refine OL.nil ?_
                      obtain ⟨rfl, he⟩ := fade_eqv hT.eqv q1 q2
                      obtain ⟨hg, hle⟩ := fade_good hT.good q1
                      exact EX.next (j + 1, x1, z1, z2) [0, 1, 2, 3, 4] (show Twin m (x1, z1, z2) ∧ 0 ≤ j + 1 from ⟨⟨by rw [hle]; exact hT.len, hg, he⟩, by omega⟩) (show (bits .and .i64 nn 2047 - (j + 1)).toNat < (bits .and .i64 nn 2047 - j).toNat by omega) ⟨rfl, rfl, rfl, rfl, rfl, rfl, rfl, rfl, trivial⟩ rfl rfl
                    · repeat (first | replace h10 := yes h10 | replace h10 := no h10 | replace h10 := nyes h10 | replace h10 := nno h10)
                      refine CW.exit ?_
                      refine EX.exitT ?_
                      refine EX.exitT ?_
                      refine EX.exitB ?_
                      refine EX.norB ?_
                      exact EX.meet (xs, s1, s2) [0, 1, 2, 3] (hT) ⟨rfl, rfl, rfl, rfl, rfl, rfl, trivial⟩ rfl rfl
            ·
              clear hT
              rintro ⟨xs, s1, s2⟩ hT
              dsimp only
              refine CW.seq ?_
              refine CW.seq ?_
              refine CW.drawn [(true, 0), (true, 2), (true, 3), (true, 4), (true, 5), (false, 1), (false, 6), (true, 7), (true, 8), (true, 9), (false, 10), (false, 11), (true, 12), (true, 13), (true, 14), (true, 15), (true, 16), (true, 17), (true, 18), (true, 19), (true, 20), (false, 21), (false, 22), (true, 23), (true, 24)] [] [2, 3] mixed (by kernel_rfl) (by repeat (first | exact PanicOk.body | refine PanicOk.then ?_ | refine PanicOk.block ?_)) (by kernel_rfl) rfl rfl rfl rfl ?_
              refine OL.qt (Y.move rfl) rfl ?_
              refine OL.qt (Y.move rfl) rfl ?_
              refine OL.qt (Y.nilCheck rfl) rfl ?_
              refine OL.qt (Y.field L63_1 rfl) rfl ?_
              first | refine OL.qt (Y.load T48 rfl (Ent.at 0 rfl (Up.cellIs _ _ _) (blk_cell rfl))) rfl ?_ | refine OL.qt (Y.load T48 rfl (Ent.at 1 rfl (Up.cellIs _ _ _) (blk_cell rfl))) rfl ?_ | refine OL.qt (Y.load T48 rfl (Ent.at 2 rfl (Up.cellIs _ _ _) (blk_cell rfl))) rfl ?_ | refine OL.qt (Y.load T48 rfl (Ent.at 3 rfl (Up.cellIs _ _ _) (blk_cell rfl))) rfl ?_ | refine OL.qt (Y.load T48 rfl (Ent.at 4 rfl (Up.cellIs _ _ _) (blk_cell rfl))) rfl ?_ | refine OL.qt (Y.load T48 rfl (Ent.at 5 rfl (Up.cellIs _ _ _) (blk_cell rfl))) rfl ?_
              refine OL.call [0, 1] (step_any t a m m xs s1 dk) Try.call33 rfl rfl rfl rfl (Ent.nothing _) rfl ?_
              rintro _ _ ⟨rfl, rfl⟩
              refine ⟨rfl, rfl, ?_⟩
              refine OL.call [] (rsame_any s1 s2) Try.call32 rfl rfl rfl rfl (Ent.nothing _) rfl ?_
              rintro _ _ ⟨rfl, rfl⟩
              refine ⟨rfl, rfl, ?_⟩
              refine OL.qt (Y.not rfl) rfl ?_
              refine OL.qt (Y.move rfl) rfl ?_
              refine OL.guard (s := 122) rfl (fun g30_8 => ?_) (fun g30_8 => ?_)
              · have ng30_8 := g30_8
                repeat (first | replace ng30_8 := yes ng30_8 | replace ng30_8 := no ng30_8 | replace ng30_8 := nyes ng30_8 | replace ng30_8 := nno ng30_8)
                exfalso
                rw [same_eqv hT.eqv] at g30_8; cases g30_8
              · have ng30_8 := g30_8
                repeat (first | replace ng30_8 := yes ng30_8 | replace ng30_8 := no ng30_8 | replace ng30_8 := nyes ng30_8 | replace ng30_8 := nno ng30_8)
                refine OL.ont g30_8 rfl rfl ?_
                refine OL.qt (Y.move rfl) rfl ?_
                refine OL.on g30_8 rfl rfl ?_
                refine OL.call [0, 1] (score_any t a m m xs s1 dk (-1) hT.len) Try.call25 rfl rfl rfl rfl (Ent.nothing _) rfl ?_
                rintro _ _ ⟨rfl, rfl⟩
                refine ⟨rfl, rfl, ?_⟩
                refine OL.on g30_8 rfl rfl ?_
                refine OL.call [] (rnan_any _) Try.call34 rfl rfl rfl rfl (Ent.nothing _) rfl ?_
                rintro _ _ ⟨rfl, rfl⟩
                refine ⟨rfl, rfl, ?_⟩
                refine OL.ont g30_8 rfl rfl ?_
                refine OL.qt (Y.not rfl) rfl ?_
                refine OL.qt (Y.pickF rfl g30_8 rfl) rfl ?_
                refine OL.qt (Y.move rfl) rfl ?_
                refine OL.guard (s := 128) rfl (fun g30_14 => ?_) (fun g30_14 => ?_)
                · have ng30_14 := g30_14
                  repeat (first | replace ng30_14 := yes ng30_14 | replace ng30_14 := no ng30_14 | replace ng30_14 := nyes ng30_14 | replace ng30_14 := nno ng30_14)
                  exfalso
                  rw [nan_sc (fun q => by have := q.1; omega)] at g30_14; cases g30_14
                · have ng30_14 := g30_14
                  repeat (first | replace ng30_14 := yes ng30_14 | replace ng30_14 := no ng30_14 | replace ng30_14 := nyes ng30_14 | replace ng30_14 := nno ng30_14)
                  refine OL.ont g30_14 rfl rfl ?_
                  refine OL.qt (Y.move rfl) rfl ?_
                  refine OL.ont g30_14 rfl rfl ?_
                  refine OL.qt (Y.move rfl) rfl ?_
                  refine OL.ont g30_14 rfl rfl ?_
                  refine OL.qt (Y.nilCheck rfl) rfl ?_
                  refine OL.ont g30_14 rfl rfl ?_
                  refine OL.qt (Y.field L63_0 rfl) rfl ?_
                  refine OL.ont g30_14 rfl rfl ?_
                  first | refine OL.qt (Y.load T61 rfl (Ent.at 0 rfl (Up.cellIs _ _ _) (blk_cell rfl))) rfl ?_ | refine OL.qt (Y.load T61 rfl (Ent.at 1 rfl (Up.cellIs _ _ _) (blk_cell rfl))) rfl ?_ | refine OL.qt (Y.load T61 rfl (Ent.at 2 rfl (Up.cellIs _ _ _) (blk_cell rfl))) rfl ?_ | refine OL.qt (Y.load T61 rfl (Ent.at 3 rfl (Up.cellIs _ _ _) (blk_cell rfl))) rfl ?_ | refine OL.qt (Y.load T61 rfl (Ent.at 4 rfl (Up.cellIs _ _ _) (blk_cell rfl))) rfl ?_ | refine OL.qt (Y.load T61 rfl (Ent.at 5 rfl (Up.cellIs _ _ _) (blk_cell rfl))) rfl ?_
                  refine OL.ont g30_14 rfl rfl ?_
                  refine OL.qt (Y.lenSl Try.underlying61 rfl) rfl ?_
                  refine OL.on g30_14 rfl rfl ?_
                  refine OL.call [0, 1] (score_any t a m m xs s1 dk m hT.len) Try.call25 rfl rfl rfl rfl (Ent.nothing _) rfl ?_
                  rintro _ _ ⟨rfl, rfl⟩
                  refine ⟨rfl, rfl, ?_⟩
                  refine OL.on g30_14 rfl rfl ?_
                  refine OL.call [] (rnan_any _) Try.call34 rfl rfl rfl rfl (Ent.nothing _) rfl ?_
                  rintro _ _ ⟨rfl, rfl⟩
                  refine ⟨rfl, rfl, ?_⟩
                  refine OL.ont g30_14 rfl rfl ?_
                  refine OL.qt (Y.not rfl) rfl ?_
                  refine OL.qt (Y.pickF rfl g30_14 rfl) rfl ?_
                  refine OL.nil ?_
                  refine EX.tail ?_
                  refine OL.nil ?_
                  refine EX.seq ?_
                  refine CW.cond rfl (fun h11 => ?_) (fun h11 => ?_)
                  · repeat (first | replace h11 := yes h11 | replace h11 := no h11 | replace h11 := nyes h11 | replace h11 := nno h11)
                    exfalso
                    rw [nan_sc (fun q => by have := q.2; omega)] at h11; cases h11
                  repeat (first | replace h11 := yes h11 | replace h11 := no h11 | replace h11 := nyes h11 | replace h11 := nno h11)
                  refine CW.skip ?_
                  refine EX.seq ?_
                  refine CW.seq ?_
                  refine CW.seq ?_
                  refine CW.region ?_
                  refine OL.q (Y.move rfl) rfl ?_
                  refine OL.q (Y.nilCheck rfl) rfl ?_
                  refine OL.q (Y.field L63_0 rfl) rfl ?_
                  first | refine OL.q (Y.load T61 rfl (Ent.at 0 rfl (Up.cellIs _ _ _) (blk_cell rfl))) rfl ?_ | refine OL.q (Y.load T61 rfl (Ent.at 1 rfl (Up.cellIs _ _ _) (blk_cell rfl))) rfl ?_ | refine OL.q (Y.load T61 rfl (Ent.at 2 rfl (Up.cellIs _ _ _) (blk_cell rfl))) rfl ?_ | refine OL.q (Y.load T61 rfl (Ent.at 3 rfl (Up.cellIs _ _ _) (blk_cell rfl))) rfl ?_ | refine OL.q (Y.load T61 rfl (Ent.at 4 rfl (Up.cellIs _ _ _) (blk_cell rfl))) rfl ?_ | refine OL.q (Y.load T61 rfl (Ent.at 5 rfl (Up.cellIs _ _ _) (blk_cell rfl))) rfl ?_
                  refine OL.q (Y.lenSl Try.underlying61 rfl) rfl ?_
                  refine OL.q (Y.move rfl) rfl ?_
                  refine OL.nil ?_
                  refine EX.seq ?_
                  refine CW.block ?_
                  refine CW.loop (α := Nat) ⟨fun k => k ≤ m, fun k => [(3, .slice la ln lc), (9, .pointer (some ⟨t, 0, none⟩)), (10, .pointer (some ⟨r, 0, none⟩)), (41, .slice aa an ac), (42, .int .i64 an), (43, .int .i64 i), (142, .slice ra m m), (143, .int .i64 m), (144, .int .i64 k)], fun _ => [blk t [.slice a m m, fl s1, fl dk] 79, row a m m 48 1 ((xs).map flCells), blk r [.slice ra m m, fl s2, fl dk] 63, row ra m m 48 1 ((xs).map flCells)]⟩
                    (fun k => m - k) 0 [0, 1, 2, 3] (Nat.zero_le _) ⟨rfl, rfl, rfl, rfl, rfl, rfl, rfl, rfl, rfl, trivial⟩ rfl rfl ?_
                  intro k hk
                  dsimp only at hk ⊢
                  refine CW.seq ?_
                  refine CW.region ?_
                  refine OL.q (Y.lss rfl rfl) rfl ?_
                  refine OL.nil ?_
                  refine EX.seq ?_
                  refine CW.seq ?_
                  refine CW.cond rfl (fun h12 => ?_) (fun h12 => ?_)
                  · repeat (first | replace h12 := yes h12 | replace h12 := no h12 | replace h12 := nyes h12 | replace h12 := nno h12)
                    obtain ⟨x, hx⟩ : ∃ p, xs[k]? = some p := ⟨_, List.getElem?_eq_getElem (by have : xs.length = m := hT.len; omega)⟩
                    have hok : okV m (k : Int) := ⟨by omega, by omega⟩
                    refine CW.skip ?_
                    refine EX.seq ?_
                    refine CW.seq ?_
                    refine CW.block ?_
                    refine CW.seq ?_
                    refine CW.region ?_
                    refine OL.q (Y.move rfl) rfl ?_
                    refine OL.q (Y.index (k := k) Try.underlying61 C48 rfl rfl (Ent.at 3 rfl (Up.rd _ _ _ _) row_rd) rfl (by omega)) rfl ?_
                    refine OL.q (Y.load T48 rfl (cellsIs_at0 (rd_at (Ent.at 3 rfl (Up.rd _ _ _ _) row_rd) (mget flCells hx)) rfl)) rfl ?_
                    refine OL.q (Y.assign rfl) rfl ?_
                    refine OL.q (Y.assign rfl) rfl ?_
                    refine OL.nil ?_
                    refine EX.seq ?_
                    refine CW.seq ?_
                    refine CW.region ?_
                    refine OL.q (Y.move rfl) rfl ?_
                    refine OL.q (Y.move rfl) rfl ?_
                    refine OL.call [0, 1] (score_any t a m m xs s1 dk k hT.len) Try.call25 rfl rfl rfl rfl (Ent.nothing _) rfl ?_
                    rw [if_pos hok, Int.toNat_natCast, getD_at hx]
                    rintro _ _ ⟨rfl, rfl⟩
                    refine ⟨rfl, rfl, ?_⟩
                    refine OL.q (Y.move rfl) rfl ?_
                    refine OL.call [] (rsame_any x x) Try.call32 rfl rfl rfl rfl (Ent.nothing _) rfl ?_
                    rintro _ _ ⟨rfl, rfl⟩
                    refine ⟨rfl, rfl, ?_⟩
                    refine OL.q (Y.not rfl) rfl ?_
                    refine OL.q (Y.move rfl) rfl ?_
                    refine OL.guard (s := 155) rfl (fun g35_6 => ?_) (fun g35_6 => ?_)
                    · have ng35_6 := g35_6
                      repeat (first | replace ng35_6 := yes ng35_6 | replace ng35_6 := no ng35_6 | replace ng35_6 := nyes ng35_6 | replace ng35_6 := nno ng35_6)
                      exfalso
                      rw [same_eqv (.inl rfl)] at g35_6; cases g35_6
                    · have ng35_6 := g35_6
                      repeat (first | replace ng35_6 := yes ng35_6 | replace ng35_6 := no ng35_6 | replace ng35_6 := nyes ng35_6 | replace ng35_6 := nno ng35_6)
                      refine OL.on g35_6 rfl rfl ?_
                      refine OL.q (Y.move rfl) rfl ?_
                      refine OL.on g35_6 rfl rfl ?_
                      refine OL.q (Y.move rfl) rfl ?_
                      refine OL.on g35_6 rfl rfl ?_
                      refine OL.call [0, 1] (score_any t a m m xs s1 dk k hT.len) Try.call25 rfl rfl rfl rfl (Ent.nothing _) rfl ?_
                      rw [if_pos hok, Int.toNat_natCast, getD_at hx]
                      rintro _ _ ⟨rfl, rfl⟩
                      refine ⟨rfl, rfl, ?_⟩
                      refine OL.on g35_6 rfl rfl ?_
                      refine OL.call [] (bits_any x) Try.call35 rfl rfl rfl rfl (Ent.nothing _) rfl ?_
                      rintro _ _ ⟨rfl, rfl⟩
                      refine ⟨rfl, rfl, ?_⟩
                      refine OL.on g35_6 rfl rfl ?_
                      refine OL.q (Y.move rfl) rfl ?_
                      refine OL.on g35_6 rfl rfl ?_
                      refine OL.call [] (bits_any x) Try.call35 rfl rfl rfl rfl (Ent.nothing _) rfl ?_
                      rintro _ _ ⟨rfl, rfl⟩
                      refine ⟨rfl, rfl, ?_⟩
                      refine OL.on g35_6 rfl rfl ?_
                      refine OL.q (Y.neq rfl rfl) rfl ?_
                      refine OL.q (Y.pickF rfl g35_6 rfl) rfl ?_
                      refine OL.nil ?_
                      refine EX.seq ?_
                      refine CW.cond rfl (fun h13 => ?_) (fun h13 => ?_)
                      · repeat (first | replace h13 := yes h13 | replace h13 := no h13 | replace h13 := nyes h13 | replace h13 := nno h13)
                        exfalso
                        exact h13 rfl
                      repeat (first | replace h13 := yes h13 | replace h13 := no h13 | replace h13 := nyes h13 | replace h13 := nno h13)
                      refine CW.skip ?_
                      refine EX.norB ?_
                      refine EX.seq ?_
                      refine CW.region ?_
                      first | refine OL.q (Y.add1 rfl rfl rfl (by omega)) rfl ?_ | refine OL.q (Y.addN rfl rfl (by omega)) rfl ?_ | refine OL.q (Y.add rfl rfl (by omega)) rfl ?_
                      refine OL.q (Y.move rfl) rfl ?_
                      refine OL.nil ?_
                      exact EX.next (k + 1) [0, 1, 2, 3] (show k + 1 ≤ m by omega) (show m - (k + 1) < m - k by omega) ⟨rfl, rfl, rfl, rfl, rfl, rfl, rfl, rfl, rfl, trivial⟩ rfl rfl
                  · repeat (first | replace h12 := yes h12 | replace h12 := no h12 | replace h12 := nyes h12 | replace h12 := nno h12)
                    refine CW.exit ?_
                    refine EX.exitT ?_
                    refine EX.exitT ?_
                    refine EX.exitB ?_
                    refine EX.seq ?_
                    refine CW.seq ?_
                    refine CW.region ?_
                    refine OL.q (Y.move rfl) rfl ?_
                    refine OL.q (Y.move rfl) rfl ?_
                    refine OL.call [0, 1] (best_any t a m m xs s1 dk la ln lc l hT.len hl hT.good.plain (by omega)) Try.call23 rfl rfl rfl rfl (Ent.frame (Up.rd _ _ _ _) (fun h hs => (hF h hs).2)) rfl ?_
                    rintro _ _ ⟨⟨b, f, rfl, hB⟩, rfl⟩
                    refine ⟨rfl, rfl, ?_⟩
                    refine OL.q (Y.move rfl) rfl ?_
                    refine OL.q (Y.extract rfl rfl) rfl ?_
                    refine OL.q (Y.extract rfl rfl) rfl ?_
                    refine OL.q (Y.assign rfl) rfl ?_
                    refine OL.q (Y.assign rfl) rfl ?_
                    refine OL.nil ?_
                    refine EX.seq ?_
                    refine CW.seq ?_
                    refine CW.region ?_
                    refine OL.q (Y.move rfl) rfl ?_
                    refine OL.q (Y.move rfl) rfl ?_
                    refine OL.call [2, 3] (rbest_any r ra m m xs s2 dk la ln lc l hT.len hl hT.good.plain (by omega)) Try.call36 rfl rfl rfl rfl (Ent.frame (Up.rd _ _ _ _) (fun h hs => (hF h hs).2)) rfl ?_
                    rintro _ _ ⟨⟨b2, f2, rfl, hB2⟩, rfl⟩
                    obtain ⟨rfl, rfl⟩ := hB.same hB2 (fun _ => Iff.rfl)
                    refine ⟨rfl, rfl, ?_⟩
                    refine OL.q (Y.assign rfl) rfl ?_
                    refine OL.nil ?_
                    refine EX.seq ?_
                    refine CW.seq ?_
                    rcases Bool.eq_false_or_eq_true f with rfl | rfl
                    · have hb0 := (hB.yes rfl).2.1.1
                      rw [show wOf b true = b from rfl]
                      refine CW.region ?_
                      refine OL.q (Y.move rfl) rfl ?_
                      refine OL.q (Y.move rfl) rfl ?_
                      refine OL.q (Y.geq rfl rfl) rfl ?_
                      refine OL.q (Y.neqB Try.underlying4 rfl rfl) rfl ?_
                      refine OL.q (Y.move rfl) rfl ?_
                      refine OL.guard (s := 178) rfl (fun g40_4 => ?_) (fun g40_4 => ?_)
                      · have ng40_4 := g40_4
                        repeat (first | replace ng40_4 := yes ng40_4 | replace ng40_4 := no ng40_4 | replace ng40_4 := nyes ng40_4 | replace ng40_4 := nno ng40_4)
                        exfalso
                        simp [hb0] at g40_4
                      · have ng40_4 := g40_4
                        repeat (first | replace ng40_4 := yes ng40_4 | replace ng40_4 := no ng40_4 | replace ng40_4 := nyes ng40_4 | replace ng40_4 := nno ng40_4)
                        refine OL.on g40_4 rfl rfl ?_
                        refine OL.q (Y.move rfl) rfl ?_
                        refine OL.on g40_4 rfl rfl ?_
                        refine OL.q (Y.move rfl) rfl ?_
                        refine OL.guard (s := 180) rfl (fun g40_6 => ?_) (fun g40_6 => ?_)
                        · have ng40_6 := g40_6
                          repeat (first | replace ng40_6 := yes ng40_6 | replace ng40_6 := no ng40_6 | replace ng40_6 := nyes ng40_6 | replace ng40_6 := nno ng40_6)
                          refine OL.on g40_6 rfl rfl ?_
                          refine OL.q (Y.move rfl) rfl ?_
                          refine OL.on g40_6 rfl rfl ?_
                          refine OL.q (Y.move rfl) rfl ?_
                          refine OL.on g40_6 rfl rfl ?_
                          refine OL.q (Y.neq rfl rfl) rfl ?_
                          refine OL.on g40_4 rfl rfl ?_
                          refine OL.q (Y.pickT rfl g40_6 rfl) rfl ?_
                          refine OL.q (Y.pickF rfl g40_4 rfl) rfl ?_
                          refine OL.q (Y.move rfl) rfl ?_
                          refine OL.guard (s := 186) rfl (fun g40_12 => ?_) (fun g40_12 => ?_)
                          · have ng40_12 := g40_12
                            repeat (first | replace ng40_12 := yes ng40_12 | replace ng40_12 := no ng40_12 | replace ng40_12 := nyes ng40_12 | replace ng40_12 := nno ng40_12)
                            exfalso
                            simp at g40_12
                          · have ng40_12 := g40_12
                            repeat (first | replace ng40_12 := yes ng40_12 | replace ng40_12 := no ng40_12 | replace ng40_12 := nyes ng40_12 | replace ng40_12 := nno ng40_12)
                            refine OL.on g40_12 rfl rfl ?_
                            refine OL.q (Y.move rfl) rfl ?_
                            refine OL.on g40_12 rfl rfl ?_
                            refine OL.q (Y.not rfl) rfl ?_
                            refine OL.on g40_12 rfl rfl ?_
                            refine OL.q (Y.move rfl) rfl ?_
                            refine OL.guard (s := 189) rfl (fun g40_15 => ?_) (fun g40_15 => ?_)
                            · have ng40_15 := g40_15
                              repeat (first | replace ng40_15 := yes ng40_15 | replace ng40_15 := no ng40_15 | replace ng40_15 := nyes ng40_15 | replace ng40_15 := nno ng40_15)
                              exfalso
                              cases g40_15
                            · have ng40_15 := g40_15
                              repeat (first | replace ng40_15 := yes ng40_15 | replace ng40_15 := no ng40_15 | replace ng40_15 := nyes ng40_15 | replace ng40_15 := nno ng40_15)
                              refine OL.no g40_15 rfl rfl rfl ?_
                              refine OL.no g40_15 rfl rfl rfl ?_
                              refine OL.on g40_12 rfl rfl ?_
                              refine OL.q (Y.pickF rfl g40_15 rfl) rfl ?_
                              refine OL.q (Y.pickF rfl g40_12 rfl) rfl ?_
                              refine OL.nil ?_
                              refine EX.seq ?_
                              refine CW.cond rfl (fun h14 => ?_) (fun h14 => ?_)
                              · repeat (first | replace h14 := yes h14 | replace h14 := no h14 | replace h14 := nyes h14 | replace h14 := nno h14)
                                exfalso
                                cases h14
                              repeat (first | replace h14 := yes h14 | replace h14 := no h14 | replace h14 := nyes h14 | replace h14 := nno h14)
                              refine CW.skip ?_
                              refine EX.norB ?_
                              refine EX.seq ?_
                              refine CW.region ?_
                              first | refine OL.q (Y.add1 rfl rfl rfl (by omega)) rfl ?_ | refine OL.q (Y.addN rfl rfl (by omega)) rfl ?_ | refine OL.q (Y.add rfl rfl (by omega)) rfl ?_
                              refine OL.q (Y.move rfl) rfl ?_
                              refine OL.nil ?_
                              exact EX.next (i + 1, xs, s1, s2) [0, 1, 2, 3] (show i + 1 ≤ an ∧ Twin m (xs, s1, s2) from ⟨by omega, hT⟩) (show an - (i + 1) < an - i by omega) ⟨rfl, rfl, rfl, rfl, rfl, rfl, trivial⟩ rfl rfl
                        · have ng40_6 := g40_6
                          repeat (first | replace ng40_6 := yes ng40_6 | replace ng40_6 := no ng40_6 | replace ng40_6 := nyes ng40_6 | replace ng40_6 := nno ng40_6)
                          exfalso
                          cases g40_6
                    · obtain rfl := (hB.no rfl).1
                      rw [show wOf 0 false = -1 from rfl]
                      refine CW.region ?_
                      refine OL.q (Y.move rfl) rfl ?_
                      refine OL.q (Y.move rfl) rfl ?_
                      refine OL.q (Y.geq rfl rfl) rfl ?_
                      refine OL.q (Y.neqB Try.underlying4 rfl rfl) rfl ?_
                      refine OL.q (Y.move rfl) rfl ?_
                      refine OL.guard (s := 178) rfl (fun g40_4 => ?_) (fun g40_4 => ?_)
                      · have ng40_4 := g40_4
                        repeat (first | replace ng40_4 := yes ng40_4 | replace ng40_4 := no ng40_4 | replace ng40_4 := nyes ng40_4 | replace ng40_4 := nno ng40_4)
                        exfalso
                        simp at g40_4
                      · have ng40_4 := g40_4
                        repeat (first | replace ng40_4 := yes ng40_4 | replace ng40_4 := no ng40_4 | replace ng40_4 := nyes ng40_4 | replace ng40_4 := nno ng40_4)
                        refine OL.on g40_4 rfl rfl ?_
                        refine OL.q (Y.move rfl) rfl ?_
                        refine OL.on g40_4 rfl rfl ?_
                        refine OL.q (Y.move rfl) rfl ?_
                        refine OL.guard (s := 180) rfl (fun g40_6 => ?_) (fun g40_6 => ?_)
                        · have ng40_6 := g40_6
                          repeat (first | replace ng40_6 := yes ng40_6 | replace ng40_6 := no ng40_6 | replace ng40_6 := nyes ng40_6 | replace ng40_6 := nno ng40_6)
                          exfalso
                          cases g40_6
                        · have ng40_6 := g40_6
                          repeat (first | replace ng40_6 := yes ng40_6 | replace ng40_6 := no ng40_6 | replace ng40_6 := nyes ng40_6 | replace ng40_6 := nno ng40_6)
                          refine OL.no g40_6 rfl rfl rfl ?_
                          refine OL.no g40_6 rfl rfl rfl ?_
                          refine OL.no g40_6 rfl rfl rfl ?_
                          refine OL.on g40_4 rfl rfl ?_
                          refine OL.q (Y.pickF rfl g40_6 rfl) rfl ?_
                          refine OL.q (Y.pickF rfl g40_4 rfl) rfl ?_
                          refine OL.q (Y.move rfl) rfl ?_
                          refine OL.guard (s := 186) rfl (fun g40_12 => ?_) (fun g40_12 => ?_)
                          · have ng40_12 := g40_12
                            repeat (first | replace ng40_12 := yes ng40_12 | replace ng40_12 := no ng40_12 | replace ng40_12 := nyes ng40_12 | replace ng40_12 := nno ng40_12)
                            exfalso
                            cases g40_12
                          · have ng40_12 := g40_12
                            repeat (first | replace ng40_12 := yes ng40_12 | replace ng40_12 := no ng40_12 | replace ng40_12 := nyes ng40_12 | replace ng40_12 := nno ng40_12)
                            refine OL.on g40_12 rfl rfl ?_
                            refine OL.q (Y.move rfl) rfl ?_
                            refine OL.on g40_12 rfl rfl ?_
                            refine OL.q (Y.not rfl) rfl ?_
                            refine OL.on g40_12 rfl rfl ?_
                            refine OL.q (Y.move rfl) rfl ?_
                            refine OL.guard (s := 189) rfl (fun g40_15 => ?_) (fun g40_15 => ?_)
                            · have ng40_15 := g40_15
                              repeat (first | replace ng40_15 := yes ng40_15 | replace ng40_15 := no ng40_15 | replace ng40_15 := nyes ng40_15 | replace ng40_15 := nno ng40_15)
                              refine OL.on g40_15 rfl rfl ?_
                              refine OL.q (Y.move rfl) rfl ?_
                              refine OL.on g40_15 rfl rfl ?_
                              refine OL.q (Y.neq rfl rfl) rfl ?_
                              refine OL.on g40_12 rfl rfl ?_
                              refine OL.q (Y.pickT rfl g40_15 rfl) rfl ?_
                              refine OL.q (Y.pickF rfl g40_12 rfl) rfl ?_
                              refine OL.nil ?_
                              refine EX.seq ?_
                              refine CW.cond rfl (fun h14 => ?_) (fun h14 => ?_)
                              · repeat (first | replace h14 := yes h14 | replace h14 := no h14 | replace h14 := nyes h14 | replace h14 := nno h14)
                                exfalso
                                simp at h14
                              repeat (first | replace h14 := yes h14 | replace h14 := no h14 | replace h14 := nyes h14 | replace h14 := nno h14)
                              refine CW.skip ?_
                              refine EX.norB ?_
                              refine EX.seq ?_
                              refine CW.region ?_
                              first | refine OL.q (Y.add1 rfl rfl rfl (by omega)) rfl ?_ | refine OL.q (Y.addN rfl rfl (by omega)) rfl ?_ | refine OL.q (Y.add rfl rfl (by omega)) rfl ?_
                              refine OL.q (Y.move rfl) rfl ?_
                              refine OL.nil ?_
                              exact EX.next (i + 1, xs, s1, s2) [0, 1, 2, 3] (show i + 1 ≤ an ∧ Twin m (xs, s1, s2) from ⟨by omega, hT⟩) (show an - (i + 1) < an - i by omega) ⟨rfl, rfl, rfl, rfl, rfl, rfl, trivial⟩ rfl rfl
                            · have ng40_15 := g40_15
                              repeat (first | replace ng40_15 := yes ng40_15 | replace ng40_15 := no ng40_15 | replace ng40_15 := nyes ng40_15 | replace ng40_15 := nno ng40_15)
                              exfalso
                              cases g40_15
        · repeat (first | replace h2 := yes h2 | replace h2 := no h2 | replace h2 := nyes h2 | replace h2 := nno h2)
          refine CW.exit ?_
          refine EX.exitT ?_
          refine EX.exitT ?_
          refine EX.exitB ?_
          refine EX.seq ?_
          refine CW.seq ?_
          refine CW.region ?_
          refine OL.q (Y.assign rfl) rfl ?_
          refine OL.nil ?_
          refine EX.seq ?_
          refine CW.ret ?_
          exact EX.fin1 [] rfl rfl rfl ⟨rfl, rfl⟩
end Go.Proofs.Ythnejajlkijobaa
