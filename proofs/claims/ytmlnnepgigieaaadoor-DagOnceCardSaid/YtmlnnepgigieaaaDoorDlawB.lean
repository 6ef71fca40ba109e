/- The statements DagActs and DagBuckets. -/
import Derived.Test.YtmlnnepgigieaaaDoorDlaw
namespace Go.Proofs.YtmlnnepgigieaaaDoor
open Go.Sx




theorem open_ref {r : Nat} {A : ArP} {M : PH} {L F : List HP} : ∀ h, sl ((L ++ [rarena r A M]) ++ F) h → ∃ x : DagS × DagV, RfA A M x.1 x.2 ∧ sl ((L ++ refL r x.1 x.2) ++ F) h := by
  intro h hs
  have h1 : sl (rarena r A M :: (L ++ F)) h := hs.perm (by simp [List.perm_middle])
  obtain ⟨h2, h3, d, e1, e2, ⟨x, hx, hr⟩, hl⟩ := h1
  refine ⟨x, hx, ?_⟩
  have h4 := sl.join d e1 e2 hr hl
  refine h4.perm ?_
  rw [← List.append_assoc]
  exact List.Perm.append_right F List.perm_append_comm
theorem lens {l : List ActC} {M : PH} (h : ∀ x ∈ l, x.Ok M) : ∀ x ∈ l, x.args.length = x.n ∧ x.term.kids.length = x.term.n := fun x hx => ⟨(h x hx).1.2.2, (h x hx).2.2.2⟩
theorem same_q {x y : TermC} (h : x.q = y.q) : sameT x y = true := (sameP_iff (x := x.q) (y := y.q)).2 h
theorem bad_len (n : Nat) : bad n (n : Int) = true := by simp [bad]
theorem bad_in {n k : Nat} (h : k < n) : bad n (k : Int) = false := bad_false.2 ⟨by omega, by omega⟩


set_option maxRecDepth 10000 in
set_option maxHeartbeats 16000000 in
theorem dagActs_any (most : Int) (a : Option Addr) (n c : Nat) (l : List ActC) (M : PH) (hl : rd a n 8 (l.map actCells) M) (hln : l.length = n) (ho : ∀ x ∈ l, x.Ok M) (htab : tabP M) :
    FS Tryd.prog 7 [.int .i64 most, .slice a n c] (imm M) [] (fun q H => q = .bool true ∧ H = []) := by
  refine FS.intro (N := 161) Tryd.func7 rfl rfl rfl (fun F w0 hF => ?_)
  refine CW.seq ?_
  refine CW.region ?_
  refine OL.q (Y.assign rfl) rfl ?_
  refine OL.nil ?_
  refine EX.seq ?_
  refine CW.seq ?_
  refine CW.seq ?_
  refine CW.region ?_
  refine OL.call [] (speaks_any) Tryd.call13 rfl rfl rfl rfl (Ent.frame Up.tabP (fun h hs => imm_ent Up.tabP htab h (hF h hs))) rfl ?_
  rintro _ _ ⟨rfl, rfl⟩
  refine ⟨rfl, rfl, ?_⟩
  refine OL.q (Y.not rfl) rfl ?_
  refine OL.nil ?_
  refine EX.seq ?_
  refine CW.cond rfl (fun h0 => ?_) (fun h0 => ?_)
  · repeat (first | replace h0 := yes h0 | replace h0 := no h0 | replace h0 := nyes h0 | replace h0 := nno h0)
    exfalso
    first | omega | contradiction | exact absurd rfl h0 | exact absurd h0 (by simp) | exact absurd h0 (by decide)
  repeat (first | replace h0 := yes h0 | replace h0 := no h0 | replace h0 := nyes h0 | replace h0 := nno h0)
  refine CW.skip ?_
  refine EX.seq ?_
  refine CW.seq ?_
  refine CW.seq ?_
  refine CW.region ?_
  refine OL.q (Y.move rfl) rfl ?_
  refine OL.call [] (great_any a n c l hln (lens ho)) Tryd.call14 rfl rfl rfl rfl (Ent.frame (Up.rd _ _ _ _) (fun h hs => imm_ent (Up.rd _ _ _ _) hl h (hF h hs))) rfl ?_
  rintro _ _ ⟨rfl, rfl⟩
  refine ⟨rfl, rfl, ?_⟩
  refine OL.nil ?_
  refine EX.seq ?_
  refine CW.cond rfl (fun h1 => ?_) (fun h1 => ?_)
  · have bh1 := h1
    repeat (first | replace h1 := yes h1 | replace h1 := no h1 | replace h1 := nyes h1 | replace h1 := nno h1)
    refine CW.seq ?_
    refine CW.region ?_
    refine OL.q (Y.assign rfl) rfl ?_
    refine OL.nil ?_
    refine EX.seq ?_
    refine CW.ret ?_
    refine EX.retT ?_
    exact EX.fin1 [] rfl rfl rfl ⟨rfl, rfl⟩
  · have bh1 := h1
    repeat (first | replace h1 := yes h1 | replace h1 := no h1 | replace h1 := nyes h1 | replace h1 := nno h1)
    have hg : greatP (l.map ActC.q) = false := h1
    refine CW.skip ?_
    refine EX.seq ?_
    refine CW.seq ?_
    refine CW.region ?_
    refine OL.q (Y.move rfl) rfl ?_
    refine OL.q (Y.move rfl) rfl ?_
    refine OL.call [] (laid_any most a n c l M hl hln ho hg htab) Tryd.call21 rfl rfl rfl rfl (Ent.frame (fun _ _ e h => le.trans h e) hF) rfl ?_
    rintro _ _ ⟨t, r, rfl, rfl⟩
    refine ⟨rfl, rfl, ?_⟩
    refine OL.q (Y.move rfl) rfl ?_
    refine OL.q (Y.extract rfl rfl) rfl ?_
    refine OL.q (Y.extract rfl rfl) rfl ?_
    refine OL.q (Y.extract rfl rfl) rfl ?_
    refine OL.q (Y.assign rfl) rfl ?_
    refine OL.q (Y.assign rfl) rfl ?_
    refine OL.q (Y.assign rfl) rfl ?_
    refine OL.nil ?_
    refine EX.seq ?_
    refine CW.seq ?_
    refine CW.seq ?_
    obtain ⟨hbd1, hbd2⟩ := laid_bd most (l.map ActC.q)
    have hl80 := small_len hg
    simp only [List.length_map] at hbd1 hbd2
    generalize laid most (l.map ActC.q) = A at hbd1 hbd2 ⊢
    refine CW.read _ (fun x : DagS × DagV => [arena t A] ++ refL r x.1 x.2) (open_ref (L := [arena t A])) ?_
    rintro ⟨S, v⟩ hR
    dsimp only at hR ⊢
    refine CW.drop (H' := [arena t A, blk r [.slice v.sa v.sn v.sc, .slice v.fa v.fn v.fc, .slice v.ta v.tn v.tc, .slice v.oa v.on v.oc, .int .i64 S.most] 62, row v.sa v.sn v.sc 57 2 (S.sorts.map sortCells), row v.fa v.fn v.fc 38 3 (S.funs.map funCells), row v.ta v.tn v.tc 30 4 (S.terms.map termCells), row v.oa v.on v.oc 3 1 (S.of.map intCells)]) [0, 1, 2, 3, 4, 5] rfl rfl ?_
    have htn := hR.tn
    have hsn := hR.sn
    have hfn := hR.fn
    have hq := hR.q
    have hok := hR.ok
    have hsm := hok.small
    have hqs : S.sorts.map SortC.q = A.sorts := by rw [← hq]; rfl
    have hqf : S.funs.map FunC.q = A.funs := by rw [← hq]; rfl
    have hqt : S.terms.map TermC.q = A.terms := by rw [← hq]; rfl
    refine CW.drawn [(true, 0), (true, 1), (true, 2), (true, 3), (true, 5), (true, 6), (true, 7), (true, 8), (true, 9), (false, 4), (true, 10), (true, 11), (true, 12), (true, 13), (true, 15), (true, 16), (true, 17), (true, 18), (false, 14), (false, 19), (true, 20), (true, 21), (true, 22), (true, 23), (true, 25), (true, 26), (true, 27), (true, 28), (false, 24), (false, 29), (true, 30), (true, 31)] [] [1] mixed (by kernel_rfl) (by repeat (first | exact PanicOk.body | refine PanicOk.then ?_ | refine PanicOk.block ?_)) (by kernel_rfl) rfl rfl rfl rfl ?_
    refine OL.qt (Y.move rfl) rfl ?_
    refine OL.qt (Y.not rfl) rfl ?_
    refine OL.qt (Y.move rfl) rfl ?_
    refine OL.guard (s := 29) rfl (fun g6_2 => ?_) (fun g6_2 => ?_)
    · have ng6_2 := g6_2
      repeat (first | replace ng6_2 := yes ng6_2 | replace ng6_2 := no ng6_2 | replace ng6_2 := nyes ng6_2 | replace ng6_2 := nno ng6_2)
      exfalso
      first | omega | contradiction | exact absurd rfl ng6_2 | exact absurd ng6_2 (by simp) | exact absurd ng6_2 (by decide)
    · have ng6_2 := g6_2
      repeat (first | replace ng6_2 := yes ng6_2 | replace ng6_2 := no ng6_2 | replace ng6_2 := nyes ng6_2 | replace ng6_2 := nno ng6_2)
      refine OL.ont g6_2 rfl rfl ?_
      refine OL.qt (Y.move rfl) rfl ?_
      refine OL.ont g6_2 rfl rfl ?_
      refine OL.qt (Y.move rfl) rfl ?_
      refine OL.ont g6_2 rfl rfl ?_
      refine OL.qt (Y.nilCheck rfl) rfl ?_
      refine OL.ont g6_2 rfl rfl ?_
      refine OL.qt (Y.field L62_2 rfl) rfl ?_
      refine OL.ont g6_2 rfl rfl ?_
      refine OL.qt (Y.load T60 rfl (Ent.at 0 rfl (Up.cellIs _ _ _) (blk_cell rfl))) rfl ?_
      refine OL.ont g6_2 rfl rfl ?_
      refine OL.qt (Y.lenSl Tryd.underlying60 rfl) rfl ?_
      refine OL.on g6_2 rfl rfl ?_
      refine OL.call [] (Len_w t A) Tryd.call18 rfl rfl rfl rfl (Ent.at 0 rfl (Up.arena _ _) (fun _ h => h)) rfl ?_
      rintro _ _ ⟨rfl, rfl⟩
      refine ⟨rfl, rfl, ?_⟩
      refine OL.ont g6_2 rfl rfl ?_
      refine OL.qt (Y.neq rfl rfl) rfl ?_
      refine OL.qt (Y.pickF rfl g6_2 rfl) rfl ?_
      refine OL.qt (Y.move rfl) rfl ?_
      refine OL.guard (s := 39) rfl (fun g6_12 => ?_) (fun g6_12 => ?_)
      · have ng6_12 := g6_12
        repeat (first | replace ng6_12 := yes ng6_12 | replace ng6_12 := no ng6_12 | replace ng6_12 := nyes ng6_12 | replace ng6_12 := nno ng6_12)
        exfalso
        first | omega | contradiction | exact absurd rfl ng6_12 | exact absurd ng6_12 (by simp) | exact absurd ng6_12 (by decide)
      · have ng6_12 := g6_12
        repeat (first | replace ng6_12 := yes ng6_12 | replace ng6_12 := no ng6_12 | replace ng6_12 := nyes ng6_12 | replace ng6_12 := nno ng6_12)
        refine OL.ont g6_12 rfl rfl ?_
        refine OL.qt (Y.move rfl) rfl ?_
        refine OL.ont g6_12 rfl rfl ?_
        refine OL.qt (Y.move rfl) rfl ?_
        refine OL.ont g6_12 rfl rfl ?_
        refine OL.qt (Y.nilCheck rfl) rfl ?_
        refine OL.ont g6_12 rfl rfl ?_
        refine OL.qt (Y.field L62_0 rfl) rfl ?_
        refine OL.ont g6_12 rfl rfl ?_
        refine OL.qt (Y.load T53 rfl (Ent.at 0 rfl (Up.cellIs _ _ _) (blk_cell rfl))) rfl ?_
        refine OL.on g6_12 rfl rfl ?_
        refine OL.call [] (Sorts_w t A) Tryd.call27 rfl rfl rfl rfl (Ent.at 0 rfl (Up.arena _ _) (fun _ h => h)) rfl ?_
        rintro _ _ ⟨sa2, sc2, ss, M2, rfl, hsq, hso, rfl⟩
        refine ⟨rfl, rfl, ?_⟩
        refine OL.on g6_12 rfl rfl ?_
        refine OL.call [] (sortsHeld sa2 v.sa A.sorts.length sc2 v.sn v.sc ss S.sorts M2 M hso hok.sorts (by rw [← hsq]; simp) hok.sn (by omega) (by rw [hsq, hqs])) Tryd.call30 rfl rfl rfl rfl (Ent.and (Ent.and (Ent.at 6 rfl (Up.rd _ _ _ _) row_rd) (Ent.at 2 rfl (Up.rd _ _ _ _) row_rd)) (Ent.and (Ent.at 7 rfl (fun _ _ e h => le.trans h e) (fun _ h => h)) (Ent.frame (fun _ _ e h => le.trans h e) hF))) rfl ?_
        rintro _ _ ⟨rfl, rfl⟩
        refine ⟨rfl, rfl, ?_⟩
        refine OL.ont g6_12 rfl rfl ?_
        refine OL.qt (Y.not rfl) rfl ?_
        refine OL.qt (Y.pickF rfl g6_12 rfl) rfl ?_
        refine OL.qt (Y.move rfl) rfl ?_
        refine OL.guard (s := 49) rfl (fun g6_22 => ?_) (fun g6_22 => ?_)
        · have ng6_22 := g6_22
          repeat (first | replace ng6_22 := yes ng6_22 | replace ng6_22 := no ng6_22 | replace ng6_22 := nyes ng6_22 | replace ng6_22 := nno ng6_22)
          exfalso
          cases ng6_22
        · have ng6_22 := g6_22
          repeat (first | replace ng6_22 := yes ng6_22 | replace ng6_22 := no ng6_22 | replace ng6_22 := nyes ng6_22 | replace ng6_22 := nno ng6_22)
          refine OL.ont g6_22 rfl rfl ?_
          refine OL.qt (Y.move rfl) rfl ?_
          refine OL.ont g6_22 rfl rfl ?_
          refine OL.qt (Y.move rfl) rfl ?_
          refine OL.ont g6_22 rfl rfl ?_
          refine OL.qt (Y.nilCheck rfl) rfl ?_
          refine OL.ont g6_22 rfl rfl ?_
          refine OL.qt (Y.field L62_1 rfl) rfl ?_
          refine OL.ont g6_22 rfl rfl ?_
          refine OL.qt (Y.load T55 rfl (Ent.at 0 rfl (Up.cellIs _ _ _) (blk_cell rfl))) rfl ?_
          refine OL.on g6_22 rfl rfl ?_
          refine OL.call [] (Funs_w t A) Tryd.call29 rfl rfl rfl rfl (Ent.at 0 rfl (Up.arena _ _) (fun _ h => h)) rfl ?_
          rintro _ _ ⟨fa2, fc2, fs, M3, rfl, hfq, hfo, rfl⟩
          refine ⟨rfl, rfl, ?_⟩
          refine OL.on g6_22 rfl rfl ?_
          refine OL.call [] (funsHeld fa2 v.fa A.funs.length fc2 v.fn v.fc fs S.funs M3 M hfo hok.funs (by rw [← hfq]; simp) hok.fn (by omega) (by rw [hfq, hqf])) Tryd.call31 rfl rfl rfl rfl (Ent.and (Ent.and (Ent.at 8 rfl (Up.rd _ _ _ _) row_rd) (Ent.at 3 rfl (Up.rd _ _ _ _) row_rd)) (Ent.and (Ent.at 9 rfl (fun _ _ e h => le.trans h e) (fun _ h => h)) (Ent.frame (fun _ _ e h => le.trans h e) hF))) rfl ?_
          rintro _ _ ⟨rfl, rfl⟩
          refine ⟨rfl, rfl, ?_⟩
          refine OL.ont g6_22 rfl rfl ?_
          refine OL.qt (Y.not rfl) rfl ?_
          refine OL.qt (Y.pickF rfl g6_22 rfl) rfl ?_
          refine OL.nil ?_
          refine EX.tail ?_
          refine OL.nil ?_
          refine EX.seq ?_
          refine CW.cond rfl (fun h2 => ?_) (fun h2 => ?_)
          · repeat (first | replace h2 := yes h2 | replace h2 := no h2 | replace h2 := nyes h2 | replace h2 := nno h2)
            exfalso
            cases h2
          repeat (first | replace h2 := yes h2 | replace h2 := no h2 | replace h2 := nyes h2 | replace h2 := nno h2)
          refine CW.skip ?_
          refine EX.seq ?_
          refine CW.seq ?_
          refine CW.seq ?_
          refine CW.drop (H' := [arena t A, blk r [.slice v.sa v.sn v.sc, .slice v.fa v.fn v.fc, .slice v.ta v.tn v.tc, .slice v.oa v.on v.oc, .int .i64 S.most] 62, row v.sa v.sn v.sc 57 2 (S.sorts.map sortCells), row v.fa v.fn v.fc 38 3 (S.funs.map funCells), row v.ta v.tn v.tc 30 4 (S.terms.map termCells), row v.oa v.on v.oc 3 1 (S.of.map intCells)]) [0, 1, 2, 3, 4, 5] rfl rfl ?_
          refine CW.region ?_
          refine OL.q (Y.move rfl) rfl ?_
          refine OL.call [] (At_bad t A (-1) rfl) Tryd.call32 rfl rfl rfl rfl (Ent.at 0 rfl (Up.arena _ _) (fun _ h => h)) rfl ?_
          rintro _ _ ⟨rfl, rfl⟩
          refine ⟨rfl, rfl, ?_⟩
          refine OL.q (Y.move rfl) rfl ?_
          refine OL.q (Y.extract rfl rfl) rfl ?_
          refine OL.q (Y.extract rfl rfl) rfl ?_
          refine OL.alloc C30 rfl (fun b8 => ⟨rfl, rfl, ?_⟩)
          refine OL.storeAll 6 rfl C30 rfl rfl rfl rfl rfl rfl ⟨rfl, rfl, ?_⟩
          refine OL.q (Y.assign rfl) rfl ?_
          refine OL.nil ?_
          refine EX.seq ?_
          refine CW.seq ?_
          refine CW.region ?_
          refine OL.q (Y.move rfl) rfl ?_
          refine OL.q (Y.move rfl) rfl ?_
          refine OL.guard (s := 65) rfl (fun g9_1 => ?_) (fun g9_1 => ?_)
          · have ng9_1 := g9_1
            repeat (first | replace ng9_1 := yes ng9_1 | replace ng9_1 := no ng9_1 | replace ng9_1 := nyes ng9_1 | replace ng9_1 := nno ng9_1)
            exfalso
            first | omega | contradiction | exact absurd rfl ng9_1 | exact absurd ng9_1 (by simp) | exact absurd ng9_1 (by decide)
          · have ng9_1 := g9_1
            repeat (first | replace ng9_1 := yes ng9_1 | replace ng9_1 := no ng9_1 | replace ng9_1 := nyes ng9_1 | replace ng9_1 := nno ng9_1)
            refine OL.on g9_1 rfl rfl ?_
            refine OL.q (Y.move rfl) rfl ?_
            refine OL.on g9_1 rfl rfl ?_
            refine OL.call [] (Of_w t A (-1)) Tryd.call33 rfl rfl rfl rfl (Ent.at 0 rfl (Up.arena _ _) (fun _ h => h)) rfl ?_
            rw [if_pos (show bad A.terms.length (-1) = true from rfl)]
            rintro _ _ ⟨rfl, rfl⟩
            refine ⟨rfl, rfl, ?_⟩
            refine OL.on g9_1 rfl rfl ?_
            refine OL.q (Y.neq rfl rfl) rfl ?_
            refine OL.q (Y.pickF rfl g9_1 rfl) rfl ?_
            refine OL.q (Y.move rfl) rfl ?_
            refine OL.guard (s := 70) rfl (fun g9_6 => ?_) (fun g9_6 => ?_)
            · have ng9_6 := g9_6
              repeat (first | replace ng9_6 := yes ng9_6 | replace ng9_6 := no ng9_6 | replace ng9_6 := nyes ng9_6 | replace ng9_6 := nno ng9_6)
              exfalso
              first | omega | contradiction | exact absurd rfl ng9_6 | exact absurd ng9_6 (by simp) | exact absurd ng9_6 (by decide)
            · have ng9_6 := g9_6
              repeat (first | replace ng9_6 := yes ng9_6 | replace ng9_6 := no ng9_6 | replace ng9_6 := nyes ng9_6 | replace ng9_6 := nno ng9_6)
              refine OL.on g9_6 rfl rfl ?_
              refine OL.q (Y.move rfl) rfl ?_
              refine OL.on g9_6 rfl rfl ?_
              refine OL.q (Y.move rfl) rfl ?_
              refine OL.on g9_6 rfl rfl ?_
              refine OL.call [] (Len_w t A) Tryd.call18 rfl rfl rfl rfl (Ent.at 0 rfl (Up.arena _ _) (fun _ h => h)) rfl ?_
              rintro _ _ ⟨rfl, rfl⟩
              refine ⟨rfl, rfl, ?_⟩
              refine OL.on g9_6 rfl rfl ?_
              refine OL.call [] (Of_w t A (A.terms.length : Nat)) Tryd.call33 rfl rfl rfl rfl (Ent.at 0 rfl (Up.arena _ _) (fun _ h => h)) rfl ?_
              rw [if_pos (bad_len _)]
              rintro _ _ ⟨rfl, rfl⟩
              refine ⟨rfl, rfl, ?_⟩
              refine OL.on g9_6 rfl rfl ?_
              refine OL.q (Y.neq rfl rfl) rfl ?_
              refine OL.q (Y.pickF rfl g9_6 rfl) rfl ?_
              refine OL.q (Y.move rfl) rfl ?_
              refine OL.guard (s := 77) rfl (fun g9_13 => ?_) (fun g9_13 => ?_)
              · have ng9_13 := g9_13
                repeat (first | replace ng9_13 := yes ng9_13 | replace ng9_13 := no ng9_13 | replace ng9_13 := nyes ng9_13 | replace ng9_13 := nno ng9_13)
                exfalso
                first | omega | contradiction | exact absurd rfl ng9_13 | exact absurd ng9_13 (by simp) | exact absurd ng9_13 (by decide)
              · have ng9_13 := g9_13
                repeat (first | replace ng9_13 := yes ng9_13 | replace ng9_13 := no ng9_13 | replace ng9_13 := nyes ng9_13 | replace ng9_13 := nno ng9_13)
                refine OL.on g9_13 rfl rfl ?_
                refine OL.q (Y.move rfl) rfl ?_
                refine OL.on g9_13 rfl rfl ?_
                refine OL.q (Y.move rfl) rfl ?_
                refine OL.on g9_13 rfl rfl ?_
                refine OL.call [] (Len_w t A) Tryd.call18 rfl rfl rfl rfl (Ent.at 0 rfl (Up.arena _ _) (fun _ h => h)) rfl ?_
                rintro _ _ ⟨rfl, rfl⟩
                refine ⟨rfl, rfl, ?_⟩
                refine OL.on g9_13 rfl rfl ?_
                refine OL.call [] (Constant_w t A (A.terms.length : Nat)) Tryd.call34 rfl rfl rfl rfl (Ent.at 0 rfl (Up.arena _ _) (fun _ h => h)) rfl ?_
                rw [bad_len]
                rintro _ _ ⟨rfl, rfl⟩
                refine ⟨rfl, rfl, ?_⟩
                refine OL.q (Y.pickF rfl g9_13 rfl) rfl ?_
                refine OL.nil ?_
                refine EX.seq ?_
                refine CW.cond rfl (fun h3 => ?_) (fun h3 => ?_)
                · repeat (first | replace h3 := yes h3 | replace h3 := no h3 | replace h3 := nyes h3 | replace h3 := nno h3)
                  exfalso
                  first | omega | contradiction | exact absurd rfl h3 | exact absurd h3 (by simp) | exact absurd h3 (by decide)
                repeat (first | replace h3 := yes h3 | replace h3 := no h3 | replace h3 := nyes h3 | replace h3 := nno h3)
                refine CW.skip ?_
                refine EX.seq ?_
                refine CW.seq ?_
                refine CW.seq ?_
                refine CW.drop (H' := [arena t A, blk r [.slice v.sa v.sn v.sc, .slice v.fa v.fn v.fc, .slice v.ta v.tn v.tc, .slice v.oa v.on v.oc, .int .i64 S.most] 62, row v.sa v.sn v.sc 57 2 (S.sorts.map sortCells), row v.fa v.fn v.fc 38 3 (S.funs.map funCells), row v.ta v.tn v.tc 30 4 (S.terms.map termCells), row v.oa v.on v.oc 3 1 (S.of.map intCells)]) [0, 1, 2, 3, 4, 5] rfl rfl ?_
                refine CW.region ?_
                refine OL.q (Y.move rfl) rfl ?_
                refine OL.q (Y.nilCheck rfl) rfl ?_
                refine OL.q (Y.field L62_2 rfl) rfl ?_
                refine OL.q (Y.load T60 rfl (Ent.at 1 rfl (Up.cellIs _ _ _) (blk_cell rfl))) rfl ?_
                refine OL.q (Y.lenSl Tryd.underlying60 rfl) rfl ?_
                refine OL.q (Y.move rfl) rfl ?_
                refine OL.nil ?_
                refine EX.seq ?_
                refine CW.block ?_
                refine CW.loop (α := Nat) ⟨(fun k => k ≤ v.tn), (fun k => [(5, Value.pointer (some { block := t, off := 0 })), (6, Value.pointer (some { block := r, off := 0 })), (87, Value.int IntKind.i64 ↑v.tn), (88, .int .i64 k)]), (fun k => [arena t A, blk r [Value.slice v.sa v.sn v.sc, Value.slice v.fa v.fn v.fc, Value.slice v.ta v.tn v.tc, Value.slice v.oa v.on v.oc, Value.int IntKind.i64 ↑S.most] 62, row v.sa v.sn v.sc 57 2 (List.map sortCells S.sorts), row v.fa v.fn v.fc 38 3 (List.map funCells S.funs), row v.ta v.tn v.tc 30 4 (List.map termCells S.terms), row v.oa v.on v.oc 3 1 (List.map intCells S.of)])⟩
                  (fun k => (v.tn - k : Nat)) 0 [0, 1, 2, 3, 4, 5] (Nat.zero_le _) ⟨rfl, rfl, rfl, rfl, trivial⟩ rfl rfl ?_
                rintro k hk
                dsimp only at hk ⊢
                refine CW.seq ?_
                refine CW.region ?_
                refine OL.q (Y.lss rfl rfl) rfl ?_
                refine OL.nil ?_
                refine EX.seq ?_
                refine CW.seq ?_
                refine CW.cond rfl (fun h4 => ?_) (fun h4 => ?_)
                · have bh4 := h4
                  repeat (first | replace h4 := yes h4 | replace h4 := no h4 | replace h4 := nyes h4 | replace h4 := nno h4)
                  obtain ⟨z, hz⟩ : ∃ p, S.terms[k]? = some p := ⟨_, List.getElem?_eq_getElem (by rw [hok.tn]; omega)⟩
                  obtain ⟨⟨hzr, hzc, hzl⟩, hzn, hzs⟩ := hok.terms z (mem_of hz)
                  obtain ⟨o, hof⟩ : ∃ p, S.of[k]? = some p := ⟨_, List.getElem?_eq_getElem (by rw [hok.on]; omega)⟩
                  have hov := hok.onv
                  have hAk : A.terms[k]? = some z.q := by rw [← hqt]; exact mget TermC.q hz
                  have hAo : A.ofAt k = o := by rw [← hq]; exact ofAt_is hof
                  have hbk : bad A.terms.length (k : Int) = false := bad_in (by omega)
                  refine CW.skip ?_
                  refine EX.seq ?_
                  refine CW.seq ?_
                  refine CW.block ?_
                  refine CW.seq ?_
                  refine CW.region ?_
                  refine OL.q (Y.move rfl) rfl ?_
                  refine OL.q (Y.assign rfl) rfl ?_
                  refine OL.nil ?_
                  refine EX.seq ?_
                  refine CW.seq ?_
                  refine CW.region ?_
                  refine OL.q (Y.move rfl) rfl ?_
                  refine OL.q (Y.move rfl) rfl ?_
                  refine OL.call [] (At_ok t A k z.q hAk) Tryd.call32 rfl rfl rfl rfl (Ent.at 0 rfl (Up.arena _ _) (fun _ h => h)) rfl ?_
                  rintro _ _ ⟨y, hyq, hyl, hyn, hys, rfl, rfl⟩
                  refine ⟨rfl, rfl, ?_⟩
                  refine OL.q (Y.move rfl) rfl ?_
                  refine OL.q (Y.extract rfl rfl) rfl ?_
                  refine OL.q (Y.extract rfl rfl) rfl ?_
                  refine OL.alloc C30 rfl (fun b11 => ⟨rfl, rfl, ?_⟩)
                  refine OL.storeAll 7 rfl C30 rfl rfl rfl rfl rfl rfl ⟨rfl, rfl, ?_⟩
                  refine OL.q (Y.assign rfl) rfl ?_
                  refine OL.nil ?_
                  refine EX.seq ?_
                  refine CW.seq ?_
                  refine CW.seq ?_
                  refine CW.drawn [(true, 0), (true, 1), (true, 2), (true, 3), (true, 4), (true, 5), (true, 6), (true, 7), (true, 8), (true, 9), (true, 10), (false, 11), (true, 12), (true, 13), (true, 14), (true, 15), (true, 16), (true, 18), (true, 19), (true, 20), (true, 21), (true, 22), (true, 23), (true, 24), (false, 17), (true, 25), (true, 26), (true, 27), (true, 28), (true, 29), (true, 31), (true, 32), (false, 30), (false, 33), (true, 34), (true, 35)] [] [1, 4, 5, 7] mixed (by kernel_rfl) (by repeat (first | exact PanicOk.body | refine PanicOk.then ?_ | refine PanicOk.block ?_)) (by kernel_rfl) rfl rfl rfl rfl ?_
                  refine OL.qt (Y.move rfl) rfl ?_
                  refine OL.qt (Y.not rfl) rfl ?_
                  refine OL.qt (Y.move rfl) rfl ?_
                  refine OL.guard (s := 99) rfl (fun g15_2 => ?_) (fun g15_2 => ?_)
                  · have ng15_2 := g15_2
                    repeat (first | replace ng15_2 := yes ng15_2 | replace ng15_2 := no ng15_2 | replace ng15_2 := nyes ng15_2 | replace ng15_2 := nno ng15_2)
                    exfalso
                    first | omega | contradiction | exact absurd rfl ng15_2 | exact absurd ng15_2 (by simp) | exact absurd ng15_2 (by decide)
                  · have ng15_2 := g15_2
                    repeat (first | replace ng15_2 := yes ng15_2 | replace ng15_2 := no ng15_2 | replace ng15_2 := nyes ng15_2 | replace ng15_2 := nno ng15_2)
                    refine OL.ont g15_2 rfl rfl ?_
                    refine OL.qt (Y.loadN S30 rfl rfl (Ent.at 3 rfl (Up.cellsIs _ _ _) blk_cells)) rfl ?_
                    refine OL.ont g15_2 rfl rfl ?_
                    refine OL.qt (Y.move rfl) rfl ?_
                    refine OL.ont g15_2 rfl rfl ?_
                    refine OL.qt (Y.nilCheck rfl) rfl ?_
                    refine OL.ont g15_2 rfl rfl ?_
                    refine OL.qt (Y.field L62_2 rfl) rfl ?_
                    refine OL.ont g15_2 rfl rfl ?_
                    refine OL.qt (Y.load T60 rfl (Ent.at 0 rfl (Up.cellIs _ _ _) (blk_cell rfl))) rfl ?_
                    refine OL.ont g15_2 rfl rfl ?_
                    refine OL.qt (Y.move rfl) rfl ?_
                    refine OL.ont g15_2 rfl rfl ?_
                    refine OL.qt (Y.index (k := k) Tryd.underlying60 C30 rfl rfl (Ent.at 1 rfl (Up.rd _ _ _ _) row_rd) rfl (by omega)) rfl ?_
                    refine OL.ont g15_2 rfl rfl ?_
                    refine OL.qt (Y.loadN S30 rfl rfl (rd_at (Ent.at 1 rfl (Up.rd _ _ _ _) row_rd) (mget termCells hz))) rfl ?_
                    refine OL.on g15_2 rfl rfl ?_
                    refine OL.call [] (rsame_any y z hyl hzl (by omega)) Tryd.call20 rfl rfl rfl rfl (Ent.and (Ent.at 6 rfl (Up.rd _ _ _ _) row_rd) (Ent.frame (Up.rd _ _ _ _) (fun h hs => imm_ent (Up.rd _ _ _ _) hzr h (hF h hs)))) rfl ?_
                    rw [same_q hyq]
                    rintro _ _ ⟨rfl, rfl⟩
                    refine ⟨rfl, rfl, ?_⟩
                    refine OL.ont g15_2 rfl rfl ?_
                    refine OL.qt (Y.not rfl) rfl ?_
                    refine OL.qt (Y.pickF rfl g15_2 rfl) rfl ?_
                    refine OL.qt (Y.move rfl) rfl ?_
                    refine OL.guard (s := 111) rfl (fun g15_14 => ?_) (fun g15_14 => ?_)
                    · have ng15_14 := g15_14
                      repeat (first | replace ng15_14 := yes ng15_14 | replace ng15_14 := no ng15_14 | replace ng15_14 := nyes ng15_14 | replace ng15_14 := nno ng15_14)
                      exfalso
                      cases ng15_14
                    · have ng15_14 := g15_14
                      repeat (first | replace ng15_14 := yes ng15_14 | replace ng15_14 := no ng15_14 | replace ng15_14 := nyes ng15_14 | replace ng15_14 := nno ng15_14)
                      refine OL.ont g15_14 rfl rfl ?_
                      refine OL.qt (Y.move rfl) rfl ?_
                      refine OL.ont g15_14 rfl rfl ?_
                      refine OL.qt (Y.move rfl) rfl ?_
                      refine OL.ont g15_14 rfl rfl ?_
                      refine OL.qt (Y.move rfl) rfl ?_
                      refine OL.ont g15_14 rfl rfl ?_
                      refine OL.qt (Y.nilCheck rfl) rfl ?_
                      refine OL.ont g15_14 rfl rfl ?_
                      refine OL.qt (Y.field L62_3 rfl) rfl ?_
                      refine OL.ont g15_14 rfl rfl ?_
                      refine OL.qt (Y.load T28 rfl (Ent.at 0 rfl (Up.cellIs _ _ _) (blk_cell rfl))) rfl ?_
                      refine OL.ont g15_14 rfl rfl ?_
                      refine OL.qt (Y.move rfl) rfl ?_
                      refine OL.ont g15_14 rfl rfl ?_
                      refine OL.qt (Y.index (k := k) Tryd.underlying28 C3 rfl rfl (Ent.at 2 rfl (Up.rd _ _ _ _) row_rd) rfl (by omega)) rfl ?_
                      refine OL.ont g15_14 rfl rfl ?_
                      refine OL.qt (Y.load T3 rfl (cellsIs_at0 (rd_at (Ent.at 2 rfl (Up.rd _ _ _ _) row_rd) (mget intCells hof)) rfl)) rfl ?_
                      refine OL.on g15_14 rfl rfl ?_
                      refine OL.call [] (Of_w t A k) Tryd.call33 rfl rfl rfl rfl (Ent.at 0 rfl (Up.arena _ _) (fun _ h => h)) rfl ?_
                      rw [hbk, hAo]
                      rintro _ _ ⟨rfl, rfl⟩
                      refine ⟨rfl, rfl, ?_⟩
                      refine OL.ont g15_14 rfl rfl ?_
                      refine OL.qt (Y.neq rfl rfl) rfl ?_
                      refine OL.qt (Y.pickF rfl g15_14 rfl) rfl ?_
                      refine OL.qt (Y.move rfl) rfl ?_
                      refine OL.guard (s := 124) rfl (fun g15_27 => ?_) (fun g15_27 => ?_)
                      · have ng15_27 := g15_27
                        repeat (first | replace ng15_27 := yes ng15_27 | replace ng15_27 := no ng15_27 | replace ng15_27 := nyes ng15_27 | replace ng15_27 := nno ng15_27)
                        exfalso
                        first | omega | contradiction | exact absurd rfl ng15_27 | exact absurd ng15_27 (by simp) | exact absurd ng15_27 (by decide)
                      · have ng15_27 := g15_27
                        repeat (first | replace ng15_27 := yes ng15_27 | replace ng15_27 := no ng15_27 | replace ng15_27 := nyes ng15_27 | replace ng15_27 := nno ng15_27)
                        refine OL.ont g15_27 rfl rfl ?_
                        refine OL.qt (Y.move rfl) rfl ?_
                        refine OL.ont g15_27 rfl rfl ?_
                        refine OL.qt (Y.move rfl) rfl ?_
                        refine OL.ont g15_27 rfl rfl ?_
                        refine OL.qt (Y.move rfl) rfl ?_
                        refine OL.ont g15_27 rfl rfl ?_
                        refine OL.qt (Y.move rfl) rfl ?_
                        refine OL.on g15_27 rfl rfl ?_
                        refine OL.call [] (Constant_w t A k) Tryd.call34 rfl rfl rfl rfl (Ent.at 0 rfl (Up.arena _ _) (fun _ h => h)) rfl ?_
                        rw [hbk, show A.consAt k = consAt S k by rw [← hq]; rfl]
                        rintro _ _ ⟨rfl, rfl⟩
                        refine ⟨rfl, rfl, ?_⟩
                        refine OL.on g15_27 rfl rfl ?_
                        refine OL.call [] (rconst_any r S v M hok hR.cons k (by omega)) Tryd.call35 rfl rfl rfl rfl (Ent.and (Ent.star [1, 2, 3, 4, 5] rfl rfl) (Ent.frame (fun _ _ e h => le.trans h e) hF)) rfl ?_
                        rintro _ _ ⟨rfl, rfl⟩
                        refine ⟨rfl, rfl, ?_⟩
                        refine OL.ont g15_27 rfl rfl ?_
                        refine OL.qt (Y.neqB Tryd.underlying4 rfl rfl) rfl ?_
                        refine OL.qt (Y.pickF rfl g15_27 rfl) rfl ?_
                        refine OL.nil ?_
                        refine EX.tail ?_
                        refine OL.nil ?_
                        refine EX.seq ?_
                        refine CW.cond rfl (fun h5 => ?_) (fun h5 => ?_)
                        · repeat (first | replace h5 := yes h5 | replace h5 := no h5 | replace h5 := nyes h5 | replace h5 := nno h5)
                          exfalso
                          exact h5 rfl
                        repeat (first | replace h5 := yes h5 | replace h5 := no h5 | replace h5 := nyes h5 | replace h5 := nno h5)
                        refine CW.skip ?_
                        refine EX.seq ?_
                        refine CW.seq ?_
                        refine CW.seq ?_
                        refine CW.region ?_
                        refine OL.q (Y.field L30_2 rfl) rfl ?_
                        refine OL.q (Y.load T28 rfl (Ent.at 7 rfl (Up.cellIs _ _ _) (blk_cell rfl))) rfl ?_
                        refine OL.q (Y.lenSl Tryd.underlying28 rfl) rfl ?_
                        refine OL.q (Y.move rfl) rfl ?_
                        refine OL.nil ?_
                        refine EX.seq ?_
                        refine CW.block ?_
                        refine CW.loop (α := Nat × List Int) ⟨(fun q_ => q_.1 ≤ y.n ∧ q_.2.length = y.n), (fun q_ => [(5, Value.pointer (some { block := t, off := 0 })), (6, Value.pointer (some { block := r, off := 0 })), (10, Value.int IntKind.i64 ↑k), (11, Value.pointer (some { block := b11, off := 0 })), (87, Value.int IntKind.i64 ↑v.tn), (88, Value.int IntKind.i64 ↑k), (135, Value.int IntKind.i64 ↑y.n), (136, .int .i64 q_.1)]), (fun q_ => [arena t A, blk r [Value.slice v.sa v.sn v.sc, Value.slice v.fa v.fn v.fc, Value.slice v.ta v.tn v.tc, Value.slice v.oa v.on v.oc, Value.int IntKind.i64 ↑S.most] 62, row v.sa v.sn v.sc 57 2 (List.map sortCells S.sorts), row v.fa v.fn v.fc 38 3 (List.map funCells S.funs), row v.ta v.tn v.tc 30 4 (List.map termCells S.terms), row v.oa v.on v.oc 3 1 (List.map intCells S.of), row y.a y.n y.c 3 1 (q_.2.map intCells), blk b11 (setR [Value.int IntKind.i64 0, Value.int IntKind.i64 0, Value.slice none 0 0, Value.string { data := #[] }] 0 (termCells y)) 30])⟩
                          (fun q_ => (y.n - q_.1 : Nat)) (0, y.kids) [0, 1, 2, 3, 4, 5, 6, 7] ⟨Nat.zero_le _, hyl⟩ ⟨rfl, rfl, rfl, rfl, rfl, rfl, rfl, rfl, trivial⟩ rfl rfl ?_
                        rintro ⟨j, xs⟩ ⟨hj, hxl⟩
                        dsimp only at hj hxl ⊢
                        refine CW.seq ?_
                        refine CW.region ?_
                        refine OL.q (Y.lss rfl rfl) rfl ?_
                        refine OL.nil ?_
                        refine EX.seq ?_
                        refine CW.seq ?_
                        refine CW.cond rfl (fun h6 => ?_) (fun h6 => ?_)
                        · have bh6 := h6
                          repeat (first | replace h6 := yes h6 | replace h6 := no h6 | replace h6 := nyes h6 | replace h6 := nno h6)
                          obtain ⟨u, hu⟩ : ∃ p, xs[j]? = some p := ⟨_, List.getElem?_eq_getElem (by omega)⟩
                          refine CW.skip ?_
                          refine EX.seq ?_
                          refine CW.seq ?_
                          refine CW.block ?_
                          refine CW.seq ?_
                          refine CW.region ?_
                          refine OL.q (Y.move rfl) rfl ?_
                          refine OL.q (Y.assign rfl) rfl ?_
                          refine OL.nil ?_
                          refine EX.seq ?_
                          refine CW.region ?_
                          refine OL.q (Y.field L30_2 rfl) rfl ?_
                          refine OL.q (Y.load T28 rfl (Ent.at 7 rfl (Up.cellIs _ _ _) (blk_cell rfl))) rfl ?_
                          refine OL.q (Y.move rfl) rfl ?_
                          refine OL.q (Y.index (k := j) Tryd.underlying28 C3 rfl rfl (Ent.at 6 rfl (Up.rd _ _ _ _) row_rd) rfl (by omega)) rfl ?_
                          refine OL.storeRow (k := j) (j := 0) 6 rfl C3 rfl rfl rfl rfl rfl rfl (mget intCells hu) (by simp [intCells]) ⟨rfl, rfl, ?_⟩
                          refine OL.nil ?_
                          refine EX.norB ?_
                          refine EX.seq ?_
                          refine CW.region ?_
                          refine OL.q (Y.add1 rfl rfl rfl (by omega)) rfl ?_
                          refine OL.q (Y.move rfl) rfl ?_
                          refine OL.nil ?_
                          exact EX.next (j + 1, xs.set j (-1)) [0, 1, 2, 3, 4, 5, 6, 7] (⟨by omega, by simp [hxl]⟩) (by first | omega | (dsimp only; omega)) ⟨rfl, rfl, rfl, rfl, rfl, rfl, rfl, rfl, trivial⟩ rfl (by show [_, _, _, _, _, _, _, _] = [_, _, _, _, _, _, _, _]; rw [List.map_set]; rfl)
                        · have bh6 := h6
                          repeat (first | replace h6 := yes h6 | replace h6 := no h6 | replace h6 := nyes h6 | replace h6 := nno h6)
                          refine CW.exit ?_
                          refine EX.exitT ?_
                          refine EX.exitT ?_
                          refine EX.exitB ?_
                          refine EX.seq ?_
                          refine CW.seq ?_
                          refine CW.drop (H' := [arena t A, blk r [.slice v.sa v.sn v.sc, .slice v.fa v.fn v.fc, .slice v.ta v.tn v.tc, .slice v.oa v.on v.oc, .int .i64 S.most] 62, row v.sa v.sn v.sc 57 2 (S.sorts.map sortCells), row v.fa v.fn v.fc 38 3 (S.funs.map funCells), row v.ta v.tn v.tc 30 4 (S.terms.map termCells), row v.oa v.on v.oc 3 1 (S.of.map intCells)]) [0, 1, 2, 3, 4, 5] rfl rfl ?_
                          refine CW.region ?_
                          refine OL.q (Y.move rfl) rfl ?_
                          refine OL.q (Y.move rfl) rfl ?_
                          refine OL.call [] (At_ok t A k z.q hAk) Tryd.call32 rfl rfl rfl rfl (Ent.at 0 rfl (Up.arena _ _) (fun _ h => h)) rfl ?_
                          rintro _ _ ⟨y2, hyq2, hyl2, hyn2, hys2, rfl, rfl⟩
                          refine ⟨rfl, rfl, ?_⟩
                          refine OL.q (Y.move rfl) rfl ?_
                          refine OL.q (Y.extract rfl rfl) rfl ?_
                          refine OL.q (Y.extract rfl rfl) rfl ?_
                          refine OL.alloc C30 rfl (fun b14 => ⟨rfl, rfl, ?_⟩)
                          refine OL.storeAll 7 rfl C30 rfl rfl rfl rfl rfl rfl ⟨rfl, rfl, ?_⟩
                          refine OL.q (Y.assign rfl) rfl ?_
                          refine OL.nil ?_
                          refine EX.seq ?_
                          refine CW.seq ?_
                          refine CW.drawn [(true, 0), (true, 1), (true, 2), (true, 3), (true, 4), (true, 5), (true, 6), (true, 7), (false, 8), (true, 9)] [] [1, 4, 7] mixed (by kernel_rfl) (by repeat (first | exact PanicOk.body | refine PanicOk.then ?_ | refine PanicOk.block ?_)) (by kernel_rfl) rfl rfl rfl rfl ?_
                          refine OL.qt (Y.loadN S30 rfl rfl (Ent.at 2 rfl (Up.cellsIs _ _ _) blk_cells)) rfl ?_
                          refine OL.qt (Y.move rfl) rfl ?_
                          refine OL.qt (Y.nilCheck rfl) rfl ?_
                          refine OL.qt (Y.field L62_2 rfl) rfl ?_
                          refine OL.qt (Y.load T60 rfl (Ent.at 0 rfl (Up.cellIs _ _ _) (blk_cell rfl))) rfl ?_
                          refine OL.qt (Y.move rfl) rfl ?_
                          refine OL.qt (Y.index (k := k) Tryd.underlying60 C30 rfl rfl (Ent.at 1 rfl (Up.rd _ _ _ _) row_rd) rfl (by omega)) rfl ?_
                          refine OL.qt (Y.loadN S30 rfl rfl (rd_at (Ent.at 1 rfl (Up.rd _ _ _ _) row_rd) (mget termCells hz))) rfl ?_
                          refine OL.call [] (rsame_any y2 z hyl2 hzl (by omega)) Tryd.call20 rfl rfl rfl rfl (Ent.and (Ent.at 6 rfl (Up.rd _ _ _ _) row_rd) (Ent.frame (Up.rd _ _ _ _) (fun h hs => imm_ent (Up.rd _ _ _ _) hzr h (hF h hs)))) rfl ?_
                          rw [same_q hyq2]
                          rintro _ _ ⟨rfl, rfl⟩
                          refine ⟨rfl, rfl, ?_⟩
                          refine OL.qt (Y.not rfl) rfl ?_
                          refine OL.nil ?_
                          refine EX.tail ?_
                          refine OL.nil ?_
                          refine EX.seq ?_
                          refine CW.cond rfl (fun h7 => ?_) (fun h7 => ?_)
                          · repeat (first | replace h7 := yes h7 | replace h7 := no h7 | replace h7 := nyes h7 | replace h7 := nno h7)
                            exfalso
                            cases h7
                          repeat (first | replace h7 := yes h7 | replace h7 := no h7 | replace h7 := nyes h7 | replace h7 := nno h7)
                          refine CW.skip ?_
                          refine EX.norB ?_
                          refine EX.seq ?_
                          refine CW.region ?_
                          refine OL.q (Y.add1 rfl rfl rfl (by omega)) rfl ?_
                          refine OL.q (Y.move rfl) rfl ?_
                          refine OL.nil ?_
                          exact EX.next (k + 1) [0, 1, 2, 3, 4, 5] (by first | omega | (dsimp only; omega)) (by first | omega | (dsimp only; omega)) ⟨rfl, rfl, rfl, rfl, trivial⟩ rfl rfl
                · have bh4 := h4
                  repeat (first | replace h4 := yes h4 | replace h4 := no h4 | replace h4 := nyes h4 | replace h4 := nno h4)
                  refine CW.exit ?_
                  refine EX.exitT ?_
                  refine EX.exitT ?_
                  refine EX.exitB ?_
                  refine EX.seq ?_
                  refine CW.seq ?_
                  refine CW.region ?_
                  refine OL.q (Y.assign rfl) rfl ?_
                  refine OL.nil ?_
                  refine EX.seq ?_
                  refine CW.ret ?_
                  exact EX.fin1 [] rfl rfl rfl ⟨rfl, rfl⟩
end Go.Proofs.YtmlnnepgigieaaaDoor
