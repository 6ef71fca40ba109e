/- The document's arena: terms, a new one, buckets. -/
import Derived.Test.YtmlnnepgigieaaaDoorDrefD
namespace Go.Proofs.YtmlnnepgigieaaaDoor
open Go.Sx

theorem L62_4 : Fld Tryd.prog 62 4 4 := ⟨⟨_, Tryd.underlying62, _, rfl, rfl, 1, by decide, Tryd.sizeOf3⟩⟩
theorem B62 : StT Tryd.prog 62 [(0, 1), (1, 1), (2, 1), (3, 1), (4, 1)] [.slice none 0 0, .slice none 0 0, .slice none 0 0, .slice none 0 0, .int .i64 0] := StT.of (it := Tryd.t62) (by kernel_rfl) Tryd.underlying62 rfl rfl (by kernel_rfl)


def refTV (v : DagV) (ta : Option Addr) (tc : Nat) (oa : Option Addr) (oc : Nat) : DagV := { v with ta := ta, tn := v.tn + 1, tc := tc, oa := oa, on := v.on + 1, oc := oc }
theorem FirstAt_of {S : DagS} {x y : TermC} {k : Nat} (hy : S.terms[k]? = some y) (hs : sameT y x = true) (hb : ∀ j z, j < k → S.terms[j]? = some z → sameT z x = false) : FirstAt S x k := ⟨⟨y, hy, hs⟩, hb⟩
theorem sl_refNew {r b : Nat} {n : Nat} {m : Int} {ss : List SortC} {F : List HP} {h : PH} (hs : sl ([row (some ⟨b, 0, none⟩) n n 57 2 (ss.map sortCells), blk r [.slice (some ⟨b, 0, none⟩) n n, .slice none 0 0, .slice none 0 0, .slice none 0 0, .int .i64 m] 62] ++ F) h) :
    sl ([blk r [.slice (some ⟨b, 0, none⟩) n n, .slice none 0 0, .slice none 0 0, .slice none 0 0, .int .i64 m] 62, row (some ⟨b, 0, none⟩) n n 57 2 (ss.map sortCells), row none 0 0 38 3 [], row none 0 0 30 4 [], row none 0 0 3 1 []] ++ F) h := by
  have h2 := sl_row_nil 38 3 (sl_row_nil 30 4 (sl_row_nil 3 1 hs))
  exact sl.picked (l := [_, _, _, _, _]) (is := [4, 3, 0, 1, 2]) rfl h2
def refS0 (m : Nat) : DagS := ⟨m, [⟨⟨#[66, 111, 111, 108]⟩, none, 0, 0, []⟩, ⟨⟨#[73, 110, 116]⟩, none, 0, 0, []⟩], [], [], [], [], []⟩


set_option maxRecDepth 10000 in
theorem rterm_low (r : Nat) (S : DagS) (v : DagV) (M : PH) (hS : RfOk M S v) (hC : ConsOk S) (x : TermC) (hx : x.Ok M) (hn : x.n ≤ 1000000) (hnum : x.num.size ≤ 1000000) :
    FS Tryd.prog 66 [.pointer (some ⟨r, 0, none⟩), termVal x] (imm M) [blk r [.slice v.sa v.sn v.sc, .slice v.fa v.fn v.fc, .slice v.ta v.tn v.tc, .slice v.oa v.on v.oc, .int .i64 S.most] 62, row v.sa v.sn v.sc 57 2 (S.sorts.map sortCells), row v.fa v.fn v.fc 38 3 (S.funs.map funCells), row v.ta v.tn v.tc 30 4 (S.terms.map termCells), row v.oa v.on v.oc 3 1 (S.of.map intCells)] (fun q H => (wrongE S x ≠ 0 ∧ q = .tuple #[.int .i64 0, .int .i64 (wrongE S x)] ∧ H = refL r S v) ∨ (wrongE S x = 0 ∧ ∃ m : Nat, FirstAt S x m ∧ q = .tuple #[.int .i64 m, .int .i64 0] ∧ H = refL r S v) ∨ (wrongE S x = 0 ∧ (∀ z ∈ S.terms, sameT z x = false) ∧ S.most ≤ v.tn ∧ q = .tuple #[.int .i64 0, .int .i64 4] ∧ H = refL r S v) ∨ (wrongE S x = 0 ∧ (∀ z ∈ S.terms, sameT z x = false) ∧ v.tn < S.most ∧ ∃ ta tc oa oc, q = .tuple #[.int .i64 v.tn, .int .i64 0] ∧ H = refL r (termPut S x S.bucks) (refTV v ta tc oa oc))) := by
  refine FS.intro (N := 73) Tryd.func66 rfl rfl rfl (fun F w0 hF => ?_)
  have hxo := hx
  obtain ⟨hxr, hxc, hxl⟩ := hx
  have hsm := hS.small
  have hov := hS.onv
  refine CW.seq ?_
  refine CW.region ?_
  refine OL.box rfl rfl rfl (fun b3 => ⟨rfl, rfl, ?_⟩)
  refine OL.q (Y.assign rfl) rfl ?_
  refine OL.q (Y.assign rfl) rfl ?_
  refine OL.nil ?_
  refine EX.seq ?_
  refine CW.seq ?_
  refine CW.region ?_
  refine OL.q (Y.move rfl) rfl ?_
  refine OL.q (Y.loadN S30 rfl rfl (Ent.at 5 rfl (Up.cellsIs _ _ _) blk_cells)) rfl ?_
  refine OL.call [] (rwrong_any r S v M hS hC x hxo hn hnum) Tryd.call90 rfl rfl rfl rfl (Ent.and (Ent.star [0, 1, 2, 3, 4] rfl rfl) (Ent.frame (fun _ _ e h => le.trans h e) hF)) rfl ?_
  rintro _ _ ⟨rfl, rfl⟩
  refine ⟨rfl, rfl, ?_⟩
  refine OL.q (Y.move rfl) rfl ?_
  refine OL.q (Y.extract rfl rfl) rfl ?_
  refine OL.q (Y.extract rfl rfl) rfl ?_
  refine OL.q (Y.assign rfl) rfl ?_
  refine OL.q (Y.assign rfl) rfl ?_
  refine OL.nil ?_
  refine EX.seq ?_
  refine CW.seq ?_
  refine CW.seq ?_
  refine CW.region ?_
  refine OL.q (Y.move rfl) rfl ?_
  refine OL.q (Y.neq rfl rfl) rfl ?_
  refine OL.nil ?_
  refine EX.seq ?_
  refine CW.cond rfl (fun h0 => ?_) (fun h0 => ?_)
  · have bh0 := h0
    repeat (first | replace h0 := yes h0 | replace h0 := no h0 | replace h0 := nyes h0 | replace h0 := nno h0)
    refine CW.seq ?_
    refine CW.region ?_
    refine OL.q (Y.move rfl) rfl ?_
    refine OL.q (Y.assign rfl) rfl ?_
    refine OL.q (Y.assign rfl) rfl ?_
    refine OL.nil ?_
    refine EX.seq ?_
    refine CW.ret ?_
    refine EX.retT ?_
    exact EX.fin2 [0, 1, 2, 3, 4] rfl rfl rfl rfl (.inl ⟨h0, rfl, rfl⟩)
  · have bh0 := h0
    repeat (first | replace h0 := yes h0 | replace h0 := no h0 | replace h0 := nyes h0 | replace h0 := nno h0)
    have hw := nne h0
    rw [if_pos hw]
    refine CW.skip ?_
    refine EX.seq ?_
    refine CW.seq ?_
    refine CW.seq ?_
    refine CW.region ?_
    refine OL.q (Y.assign rfl) rfl ?_
    refine OL.nil ?_
    refine EX.seq ?_
    refine CW.block ?_
    refine CW.loop (α := Nat) ⟨(fun k => k ≤ v.tn ∧ ∀ j z, j < k → S.terms[j]? = some z → sameT z x = false), (fun k => [(0, Value.pointer (some { block := r, off := 0 })), (3, Value.pointer (some { block := b3, off := 0 })), (7, Value.int IntKind.i64 (resE S x)), (8, .int .i64 k)]), (fun k => [blk r [Value.slice v.sa v.sn v.sc, Value.slice v.fa v.fn v.fc, Value.slice v.ta v.tn v.tc, Value.slice v.oa v.on v.oc, Value.int IntKind.i64 ↑S.most] 62, row v.sa v.sn v.sc 57 2 (List.map sortCells S.sorts), row v.fa v.fn v.fc 38 3 (List.map funCells S.funs), row v.ta v.tn v.tc 30 4 (List.map termCells S.terms), row v.oa v.on v.oc 3 1 (List.map intCells S.of), blk b3 (termCells x) 30])⟩
      (fun k => (v.tn - k : Nat)) 0 [0, 1, 2, 3, 4, 5] ⟨Nat.zero_le _, fun j z h => absurd h (Nat.not_lt_zero j)⟩ ⟨rfl, rfl, rfl, rfl, trivial⟩ rfl rfl ?_
    rintro k ⟨hk, hb⟩
    dsimp only at hk hb ⊢
    refine CW.seq ?_
    refine CW.seq ?_
    refine CW.region ?_
    refine OL.q (Y.move rfl) rfl ?_
    refine OL.q (Y.move rfl) rfl ?_
    refine OL.q (Y.nilCheck rfl) rfl ?_
    refine OL.q (Y.field L62_2 rfl) rfl ?_
    refine OL.q (Y.load T60 rfl (Ent.at 0 rfl (Up.cellIs _ _ _) (blk_cell rfl))) rfl ?_
    refine OL.q (Y.lenSl Tryd.underlying60 rfl) rfl ?_
    refine OL.q (Y.lss rfl rfl) rfl ?_
    refine OL.nil ?_
    refine EX.seq ?_
    refine CW.cond rfl (fun h1 => ?_) (fun h1 => ?_)
    · have bh1 := h1
      repeat (first | replace h1 := yes h1 | replace h1 := no h1 | replace h1 := nyes h1 | replace h1 := nno h1)
      obtain ⟨y, hp⟩ : ∃ p, S.terms[k]? = some p := ⟨_, List.getElem?_eq_getElem (by rw [hS.tn]; omega)⟩
      obtain ⟨⟨hyr, hyc, hyl⟩, hyn, hys⟩ := hS.terms y (mem_of hp)
      refine CW.skip ?_
      refine EX.seq ?_
      refine CW.seq ?_
      refine CW.block ?_
      refine CW.seq ?_
      refine CW.drawn [(true, 0), (true, 1), (true, 2), (true, 3), (true, 4), (true, 5), (true, 6), (true, 7), (false, 8)] [] [0, 3, 5] mixed (by kernel_rfl) (by repeat (first | exact PanicOk.body | refine PanicOk.then ?_ | refine PanicOk.block ?_)) (by kernel_rfl) rfl rfl rfl rfl ?_
      refine OL.qt (Y.move rfl) rfl ?_
      refine OL.qt (Y.nilCheck rfl) rfl ?_
      refine OL.qt (Y.field L62_2 rfl) rfl ?_
      refine OL.qt (Y.load T60 rfl (Ent.at 0 rfl (Up.cellIs _ _ _) (blk_cell rfl))) rfl ?_
      refine OL.qt (Y.move rfl) rfl ?_
      refine OL.qt (Y.index Tryd.underlying60 C30 rfl rfl (Ent.at 1 rfl (Up.rd _ _ _ _) row_rd) rfl (by omega)) rfl ?_
      refine OL.qt (Y.loadN S30 rfl rfl (rd_at (Ent.at 1 rfl (Up.rd _ _ _ _) row_rd) (mget _ (by assumption)))) rfl ?_
      refine OL.qt (Y.loadN S30 rfl rfl (Ent.at 2 rfl (Up.cellsIs _ _ _) blk_cells)) rfl ?_
      refine OL.call [] (rsame_any y x hyl hxl (by omega)) Tryd.call20 rfl rfl rfl rfl (Ent.and (Ent.frame (Up.rd _ _ _ _) (fun h hs => imm_ent (Up.rd _ _ _ _) (hyr) h (hF h hs))) (Ent.frame (Up.rd _ _ _ _) (fun h hs => imm_ent (Up.rd _ _ _ _) (hxr) h (hF h hs)))) rfl ?_
      rintro _ _ ⟨rfl, rfl⟩
      refine ⟨rfl, rfl, ?_⟩
      refine OL.nil ?_
      refine EX.tail ?_
      refine OL.nil ?_
      refine EX.seq ?_
      refine CW.cond rfl (fun h2 => ?_) (fun h2 => ?_)
      · have bh2 := h2
        repeat (first | replace h2 := yes h2 | replace h2 := no h2 | replace h2 := nyes h2 | replace h2 := nno h2)
        refine CW.seq ?_
        refine CW.region ?_
        refine OL.q (Y.move rfl) rfl ?_
        refine OL.q (Y.assign rfl) rfl ?_
        refine OL.q (Y.assign rfl) rfl ?_
        refine OL.nil ?_
        refine EX.seq ?_
        refine CW.ret ?_
        refine EX.retB ?_
        refine EX.retT ?_
        refine EX.retT ?_
        refine EX.retB ?_
        refine EX.retT ?_
        exact EX.fin2 [0, 1, 2, 3, 4] rfl rfl rfl rfl (.inr (.inl ⟨hw, k, FirstAt_of hp h2 hb, rfl, rfl⟩))
      · have bh2 := h2
        repeat (first | replace h2 := yes h2 | replace h2 := no h2 | replace h2 := nyes h2 | replace h2 := nno h2)
        refine CW.skip ?_
        refine EX.norB ?_
        refine EX.seq ?_
        refine CW.region ?_
        refine OL.q (Y.move rfl) rfl ?_
        refine OL.q (Y.add1 rfl rfl rfl (by omega)) rfl ?_
        refine OL.q (Y.assign rfl) rfl ?_
        refine OL.nil ?_
        exact EX.next (k + 1) [0, 1, 2, 3, 4, 5] (⟨by omega, fun j z hj hz => by
          by_cases e : j = k
          · subst e; rw [hp] at hz; cases hz; exact h2
          · exact hb j z (by omega) hz⟩) (by first | omega | (dsimp only; omega)) ⟨rfl, rfl, rfl, rfl, trivial⟩ rfl rfl
    · have bh1 := h1
      repeat (first | replace h1 := yes h1 | replace h1 := no h1 | replace h1 := nyes h1 | replace h1 := nno h1)
      have hkn : k = v.tn := by omega
      subst hkn
      have hno : ∀ z ∈ S.terms, sameT z x = false := fun z hz => by
        obtain ⟨j, hj, rfl⟩ := List.getElem_of_mem hz
        exact hb j _ (by rw [← hS.tn]; exact hj) (List.getElem?_eq_getElem hj)
      refine CW.exit ?_
      refine EX.exitT ?_
      refine EX.exitT ?_
      refine EX.exitB ?_
      refine EX.seq ?_
      refine CW.seq ?_
      refine CW.seq ?_
      refine CW.drawn [(true, 0), (true, 1), (true, 2), (true, 3), (true, 4), (true, 5), (true, 6), (true, 7), (true, 8), (true, 9)] [] [0] mixed (by kernel_rfl) (by repeat (first | exact PanicOk.body | refine PanicOk.then ?_ | refine PanicOk.block ?_)) (by kernel_rfl) rfl rfl rfl rfl ?_
      refine OL.qt (Y.move rfl) rfl ?_
      refine OL.qt (Y.nilCheck rfl) rfl ?_
      refine OL.qt (Y.field L62_2 rfl) rfl ?_
      refine OL.qt (Y.load T60 rfl (Ent.at 0 rfl (Up.cellIs _ _ _) (blk_cell rfl))) rfl ?_
      refine OL.qt (Y.lenSl Tryd.underlying60 rfl) rfl ?_
      refine OL.qt (Y.move rfl) rfl ?_
      refine OL.qt (Y.nilCheck rfl) rfl ?_
      refine OL.qt (Y.field L62_4 rfl) rfl ?_
      refine OL.qt (Y.load T3 rfl (Ent.at 0 rfl (Up.cellIs _ _ _) (blk_cell rfl))) rfl ?_
      refine OL.qt (Y.geq rfl rfl) rfl ?_
      refine OL.nil ?_
      refine EX.tail ?_
      refine OL.nil ?_
      refine EX.seq ?_
      refine CW.cond rfl (fun h3 => ?_) (fun h3 => ?_)
      · have bh3 := h3
        repeat (first | replace h3 := yes h3 | replace h3 := no h3 | replace h3 := nyes h3 | replace h3 := nno h3)
        refine CW.seq ?_
        refine CW.region ?_
        refine OL.q (Y.assign rfl) rfl ?_
        refine OL.q (Y.assign rfl) rfl ?_
        refine OL.nil ?_
        refine EX.seq ?_
        refine CW.ret ?_
        refine EX.retT ?_
        exact EX.fin2 [0, 1, 2, 3, 4] rfl rfl rfl rfl (.inr (.inr (.inl ⟨hw, hno, by omega, rfl, rfl⟩)))
      · have bh3 := h3
        repeat (first | replace h3 := yes h3 | replace h3 := no h3 | replace h3 := nyes h3 | replace h3 := nno h3)
        refine CW.skip ?_
        refine EX.seq ?_
        refine CW.seq ?_
        refine CW.drawn [(true, 0), (true, 1), (true, 2), (true, 3), (true, 4), (true, 5), (false, 6), (false, 7)] [8, 9, 10] [0, 5] mixed (by kernel_rfl) (by repeat (first | exact PanicOk.body | refine PanicOk.then ?_ | refine PanicOk.block ?_)) (by kernel_rfl) rfl rfl rfl rfl ?_
        refine OL.qt (Y.move rfl) rfl ?_
        refine OL.qt (Y.move rfl) rfl ?_
        refine OL.qt (Y.nilCheck rfl) rfl ?_
        refine OL.qt (Y.field L62_2 rfl) rfl ?_
        refine OL.qt (Y.load T60 rfl (Ent.at 0 rfl (Up.cellIs _ _ _) (blk_cell rfl))) rfl ?_
        refine OL.qt (Y.loadN S30 rfl rfl (Ent.at 1 rfl (Up.cellsIs _ _ _) blk_cells)) rfl ?_
        refine OL.buildSlice ([termCells x]) Tryd.underlying60 C30 (by decide) rfl (by decide) rfl rfl rfl (fun b53 => ⟨rfl, rfl, ?_⟩)
        refine OL.append [termCells x] 3 rfl Tryd.underlying60 E30 rfl rfl (Ent.at 6 rfl (Up.rd _ _ _ _) row_rd) rfl (by omega) (by omega) rfl (fun a54 c54 => ⟨rfl, rfl, ?_⟩)
        refine OL.nil ?_
        refine EX.tail ?_
        refine OL.q (Y.nilCheck rfl) rfl ?_
        refine OL.q (Y.field L62_2 rfl) rfl ?_
        refine OL.store 0 rfl C60 rfl rfl rfl rfl rfl ⟨rfl, rfl, ?_⟩
        refine OL.nil ?_
        refine EX.seq ?_
        refine CW.seq ?_
        refine CW.region ?_
        refine OL.q (Y.move rfl) rfl ?_
        refine OL.q (Y.move rfl) rfl ?_
        refine OL.q (Y.nilCheck rfl) rfl ?_
        refine OL.q (Y.field L62_3 rfl) rfl ?_
        refine OL.q (Y.load T28 rfl (Ent.at 0 rfl (Up.cellIs _ _ _) (blk_cell rfl))) rfl ?_
        refine OL.q (Y.move rfl) rfl ?_
        refine OL.buildSlice ([[.int .i64 (resE S x)]]) Tryd.underlying28 C3 (by decide) rfl (by decide) rfl rfl rfl (fun b63 => ⟨rfl, rfl, ?_⟩)
        refine OL.append [[.int .i64 (resE S x)]] 4 rfl Tryd.underlying28 E3 rfl rfl (Ent.at 7 rfl (Up.rd _ _ _ _) row_rd) rfl (by omega) (by omega) rfl (fun a64 c64 => ⟨rfl, rfl, ?_⟩)
        refine OL.q (Y.nilCheck rfl) rfl ?_
        refine OL.q (Y.field L62_3 rfl) rfl ?_
        refine OL.store 0 rfl C28 rfl rfl rfl rfl rfl ⟨rfl, rfl, ?_⟩
        refine OL.nil ?_
        refine EX.seq ?_
        refine CW.seq ?_
        refine CW.region ?_
        refine OL.q (Y.move rfl) rfl ?_
        refine OL.q (Y.nilCheck rfl) rfl ?_
        refine OL.q (Y.field L62_2 rfl) rfl ?_
        refine OL.q (Y.load T60 rfl (Ent.at 0 rfl (Up.cellIs _ _ _) (blk_cell rfl))) rfl ?_
        refine OL.q (Y.lenSl Tryd.underlying60 rfl) rfl ?_
        refine OL.q (Y.sub rfl rfl (by omega)) rfl ?_
        refine OL.q (Y.assign rfl) rfl ?_
        refine OL.q (Y.assign rfl) rfl ?_
        refine OL.nil ?_
        refine EX.seq ?_
        refine CW.ret ?_
        have e4 : (S.of ++ [resE S x]).map intCells = S.of.map intCells ++ [[.int .i64 (resE S x)]] := by simp [intCells]
        exact EX.fin2 [0, 1, 2, 3, 4] rfl rfl rfl rfl (.inr (.inr (.inr ⟨hw, hno, by omega, a54, c54, a64, c64, by rw [show ((v.tn + 1 : Nat) : Int) - 1 = v.tn by omega], by unfold refL termPut refTV; dsimp only; rw [List.map_append, e4]; rfl⟩)))


theorem clampM_eq3 (m : Int) {k : Int} (h : k = if m < 0 then 0 else m) : (if (1048576 : Int) < k then (1048576 : Int) else k) = ((clampM m : Nat) : Int) := by
  rw [clampM_eq, h]; (repeat' split) <;> omega


theorem rnew_low (m : Int) :
    FS Tryd.prog 63 [.int .i64 m] (nothing) [] (fun q H => ∃ r sa sn sc, q = .pointer (some ⟨r, 0, none⟩) ∧ H = [blk r [.slice sa sn sc, .slice none 0 0, .slice none 0 0, .slice none 0 0, .int .i64 (clampM m : Nat)] 62, row sa sn sc 57 2 ((refS0 0).sorts.map sortCells), row none 0 0 38 3 [], row none 0 0 30 4 [], row none 0 0 3 1 []]) := by
  refine FS.intro (N := 12) Tryd.func63 rfl rfl rfl (fun F w0 hF => ?_)
  refine CW.seq ?_
  refine CW.region ?_
  refine OL.q (Y.assign rfl) rfl ?_
  refine OL.nil ?_
  refine EX.seq ?_
  refine CW.seq ?_
  refine CW.seq ?_
  refine CW.region ?_
  refine OL.q (Y.move rfl) rfl ?_
  refine OL.q (Y.lss rfl rfl) rfl ?_
  refine OL.nil ?_
  refine EX.seq ?_
  refine CW.cond rfl (fun h0 => ?_) (fun h0 => ?_)
  · have bh0 := h0
    repeat (first | replace h0 := yes h0 | replace h0 := no h0 | replace h0 := nyes h0 | replace h0 := nno h0)
    refine CW.region ?_
    refine OL.q (Y.assign rfl) rfl ?_
    refine OL.nil ?_
    refine EX.seq ?_
    refine CW.seq ?_
    refine CW.region ?_
    refine OL.q (Y.build B57 rfl rfl) rfl ?_
    refine OL.q (Y.build B57 rfl rfl) rfl ?_
    refine OL.buildSlice ((refS0 0).sorts.map sortCells) Tryd.underlying53 C57 (by decide) rfl (by decide) rfl rfl rfl (fun b7 => ⟨rfl, rfl, ?_⟩)
    refine OL.q (Y.move rfl) rfl ?_
    refine OL.q (Y.minI rfl rfl) rfl ?_
    refine OL.q (Y.build B62 rfl rfl) rfl ?_
    refine OL.box rfl rfl rfl (fun b11 => ⟨rfl, rfl, ?_⟩)
    refine OL.q (Y.assign rfl) rfl ?_
    refine OL.nil ?_
    refine EX.seq ?_
    refine CW.ret ?_
    exact EX.finH (.inl rfl) (fun a w he => by rw [results_tmp rfl]; rw [Array.getD_eq_getD_getElem?, he _ _ rfl]; rfl) _ (fun h hs => sl_refNew (ss := (refS0 0).sorts) hs) ⟨b11, some ⟨b7, 0, none⟩, 2, 2, rfl, by rw [clampM_eq3 m (by rw [if_pos h0])]⟩
  · have bh0 := h0
    repeat (first | replace h0 := yes h0 | replace h0 := no h0 | replace h0 := nyes h0 | replace h0 := nno h0)
    refine CW.skip ?_
    refine EX.seq ?_
    refine CW.seq ?_
    refine CW.region ?_
    refine OL.q (Y.build B57 rfl rfl) rfl ?_
    refine OL.q (Y.build B57 rfl rfl) rfl ?_
    refine OL.buildSlice ((refS0 0).sorts.map sortCells) Tryd.underlying53 C57 (by decide) rfl (by decide) rfl rfl rfl (fun b7 => ⟨rfl, rfl, ?_⟩)
    refine OL.q (Y.move rfl) rfl ?_
    refine OL.q (Y.minI rfl rfl) rfl ?_
    refine OL.q (Y.build B62 rfl rfl) rfl ?_
    refine OL.box rfl rfl rfl (fun b11 => ⟨rfl, rfl, ?_⟩)
    refine OL.q (Y.assign rfl) rfl ?_
    refine OL.nil ?_
    refine EX.seq ?_
    refine CW.ret ?_
    exact EX.finH (.inl rfl) (fun a w he => by rw [results_tmp rfl]; rw [Array.getD_eq_getD_getElem?, he _ _ rfl]; rfl) _ (fun h hs => sl_refNew (ss := (refS0 0).sorts) hs) ⟨b11, some ⟨b7, 0, none⟩, 2, 2, rfl, by rw [clampM_eq3 m (by rw [if_neg h0])]⟩

theorem rconst_bad (r : Nat) (S : DagS) (v : DagV) (M : PH) (k : Int) (hb : bad v.tn k = true) :
    FS Tryd.prog 35 [.pointer (some ⟨r, 0, none⟩), .int .i64 k] (fun h => sl (refL r S v) h ∧ le M h) [] (fun q H => q = .bool false ∧ H = []) := by
  refine FS.intro (N := 42) Tryd.func35 rfl rfl rfl (fun F w0 hF => ?_)
  have hF0 := hF
  have _hI : Ent F (imm M) := fun h hs => (hF0 h hs).2
  replace hF : Ent F (fun h => sl (refL r S v) h) := fun h hs => (hF0 h hs).1
  refine CW.seq ?_
  refine CW.region ?_
  refine OL.q (Y.assign rfl) rfl ?_
  refine OL.nil ?_
  refine EX.seq ?_
  refine CW.seq ?_
  refine CW.seq ?_
  refine CW.region ?_
  refine OL.q (Y.move rfl) rfl ?_
  refine OL.q (Y.lss rfl rfl) rfl ?_
  refine OL.q (Y.move rfl) rfl ?_
  refine OL.guard (s := 8) rfl (fun g1_2 => ?_) (fun g1_2 => ?_)
  · have ng1_2 := g1_2
    repeat (first | replace ng1_2 := yes ng1_2 | replace ng1_2 := no ng1_2 | replace ng1_2 := nyes ng1_2 | replace ng1_2 := nno ng1_2)
    refine OL.no g1_2 rfl rfl rfl ?_
    refine OL.no g1_2 rfl rfl rfl ?_
    refine OL.no g1_2 rfl rfl rfl ?_
    refine OL.no g1_2 rfl rfl rfl ?_
    refine OL.no g1_2 rfl rfl rfl ?_
    refine OL.no g1_2 rfl rfl rfl ?_
    refine OL.no g1_2 rfl rfl rfl ?_
    refine OL.q (Y.pickT rfl g1_2 rfl) rfl ?_
    refine OL.nil ?_
    refine EX.seq ?_
    refine CW.condT rfl (rfl) ?_
    refine CW.seq ?_
    refine CW.region ?_
    refine OL.q (Y.assign rfl) rfl ?_
    refine OL.nil ?_
    refine EX.seq ?_
    refine CW.ret ?_
    refine EX.retT ?_
    exact EX.fin1 [] rfl rfl rfl ⟨rfl, rfl⟩
  · have ng1_2 := g1_2
    repeat (first | replace ng1_2 := yes ng1_2 | replace ng1_2 := no ng1_2 | replace ng1_2 := nyes ng1_2 | replace ng1_2 := nno ng1_2)
    refine OL.on g1_2 rfl rfl ?_
    refine OL.q (Y.move rfl) rfl ?_
    refine OL.on g1_2 rfl rfl ?_
    refine OL.q (Y.move rfl) rfl ?_
    refine OL.on g1_2 rfl rfl ?_
    refine OL.q (Y.nilCheck rfl) rfl ?_
    refine OL.on g1_2 rfl rfl ?_
    refine OL.q (Y.field L62_2 rfl) rfl ?_
    refine OL.on g1_2 rfl rfl ?_
    refine OL.q (Y.load T60 rfl (Ent.via hF (Up.cellIs _ _ _) (Ent.at 0 rfl (Up.cellIs _ _ _) (blk_cell rfl)))) rfl ?_
    refine OL.on g1_2 rfl rfl ?_
    refine OL.q (Y.lenSl Tryd.underlying60 rfl) rfl ?_
    refine OL.on g1_2 rfl rfl ?_
    refine OL.q (Y.geq rfl rfl) rfl ?_
    refine OL.q (Y.pickF rfl g1_2 rfl) rfl ?_
    refine OL.nil ?_
    refine EX.seq ?_
    refine CW.cond rfl (fun h0 => ?_) (fun h0 => ?_)
    rotate_left
    · repeat (first | replace h0 := yes h0 | replace h0 := no h0 | replace h0 := nyes h0 | replace h0 := nno h0)
      exfalso
      unfold bad at hb; simp at hb; omega
    repeat (first | replace h0 := yes h0 | replace h0 := no h0 | replace h0 := nyes h0 | replace h0 := nno h0)
    refine CW.seq ?_
    refine CW.region ?_
    refine OL.q (Y.assign rfl) rfl ?_
    refine OL.nil ?_
    refine EX.seq ?_
    refine CW.ret ?_
    refine EX.retT ?_
    exact EX.fin1 [] rfl rfl rfl ⟨rfl, rfl⟩


theorem nb_pow : ∀ k, ∃ j, nb k = 16 * 2 ^ j
  | 0 => ⟨0, rfl⟩
  | k + 1 => by
    obtain ⟨j, hj⟩ := nb_pow k
    simp only [nb]
    split
    · exact ⟨j, hj⟩
    · exact ⟨j + 1, by rw [hj, Nat.pow_succ]; omega⟩
theorem pow_step {i j : Nat} (h : 16 * 2 ^ i < 16 * 2 ^ j) : 2 * (16 * 2 ^ i) ≤ 16 * 2 ^ j := by
  have h1 : i < j := (Nat.pow_lt_pow_iff_right (by decide : 1 < 2)).1 (by omega)
  have h2 : 2 ^ (i + 1) ≤ 2 ^ j := Nat.pow_le_pow_right (by decide) h1
  rw [Nat.pow_succ] at h2
  omega
theorem nb_min : ∀ (k j : Nat), k ≤ 16 * 2 ^ j → nb k ≤ 16 * 2 ^ j
  | 0, j, _ => by
    have : 0 < 2 ^ j := Nat.pow_pos (by decide)
    simp only [nb]; omega
  | k + 1, j, h => by
    have ih := nb_min k j (by omega)
    simp only [nb]
    split
    · exact ih
    · obtain ⟨i, hi⟩ := nb_pow k
      have h9 : nb k < 16 * 2 ^ j := by omega
      rw [hi] at h9 ⊢
      exact pow_step h9
theorem nb_step {n k : Nat} (hn : ∃ j, n = 16 * 2 ^ j) (h : n < k) (hle : n ≤ nb k) : 2 * n ≤ nb k ∧ ∃ j, 2 * n = 16 * 2 ^ j := by
  obtain ⟨j, rfl⟩ := hn
  obtain ⟨i, hi⟩ := nb_pow k
  have := (nb_ge k).1
  refine ⟨?_, j + 1, by rw [Nat.pow_succ]; omega⟩
  have h9 : 16 * 2 ^ j < nb k := by omega
  rw [hi] at h9 ⊢
  exact pow_step h9
theorem nb_end {n k : Nat} (hn : ∃ j, n = 16 * 2 ^ j) (h : k ≤ n) (hle : n ≤ nb k) : n = nb k := by
  obtain ⟨j, rfl⟩ := hn
  have := nb_min k j h
  omega


set_option maxRecDepth 10000 in
theorem rbuckets_low (r : Nat) (S : DagS) (v : DagV) (M : PH) (hS : RfOk M S v) :
    FS Tryd.prog 23 [.pointer (some ⟨r, 0, none⟩)] (fun h => sl (refL r S v) h ∧ le M h) [] (fun q H => ∃ a2 c2 B, q = .slice a2 (nb v.tn) c2 ∧ Bucks (nb v.tn) (S.terms.map hashT) B ∧ H = [row a2 (nb v.tn) c2 28 1 (B.map buckCells), star (B.map buckRow)]) := by
  refine FS.intro (N := 50) Tryd.func23 rfl rfl rfl (fun F w0 hF => ?_)
  have hF0 := hF
  have hI : Ent F (imm M) := fun h hs => (hF0 h hs).2
  replace hF : Ent F (fun h => sl (refL r S v) h) := fun h hs => (hF0 h hs).1
  have hsm := hS.small
  have hnl := nb_le v.tn
  have hng := nb_ge v.tn
  obtain ⟨NB, hNB⟩ : ∃ q, nb v.tn = q := ⟨_, rfl⟩
  have hNBl : NB ≤ 16 + 2 * v.tn ∧ 0 < NB := by omega
  refine CW.seq ?_
  refine CW.region ?_
  refine OL.q (Y.assign rfl) rfl ?_
  refine OL.nil ?_
  refine EX.seq ?_
  refine CW.seq ?_
  refine CW.region ?_
  refine OL.q (Y.assign rfl) rfl ?_
  refine OL.nil ?_
  refine EX.seq ?_
  refine CW.seq ?_
  refine CW.block ?_
  refine CW.loop (α := Nat) ⟨(fun n => n ≤ nb v.tn ∧ (∃ j, n = 16 * 2 ^ j) ∧ 0 < n), (fun n => [(0, Value.pointer (some { block := r, off := 0 })), (3, .int .i64 n)]), (fun n => [])⟩
    (fun n => (2097200 - n : Nat)) 16 [] ⟨by obtain ⟨j, hj⟩ := nb_pow v.tn; have : 0 < 2 ^ j := Nat.pow_pos (by decide); omega, ⟨0, rfl⟩, by decide⟩ ⟨rfl, rfl, trivial⟩ rfl rfl ?_
  rintro n ⟨hn, hj, hn0⟩
  dsimp only at hn hj hn0 ⊢
  refine CW.seq ?_
  refine CW.seq ?_
  refine CW.region ?_
  refine OL.q (Y.move rfl) rfl ?_
  refine OL.q (Y.move rfl) rfl ?_
  refine OL.q (Y.nilCheck rfl) rfl ?_
  refine OL.q (Y.field L62_2 rfl) rfl ?_
  refine OL.q (Y.load T60 rfl (Ent.via hF (Up.cellIs _ _ _) (Ent.at 0 rfl (Up.cellIs _ _ _) (blk_cell rfl)))) rfl ?_
  refine OL.q (Y.lenSl Tryd.underlying60 rfl) rfl ?_
  refine OL.q (Y.lss rfl rfl) rfl ?_
  refine OL.nil ?_
  refine EX.seq ?_
  refine CW.cond rfl (fun h0 => ?_) (fun h0 => ?_)
  · have bh0 := h0
    repeat (first | replace h0 := yes h0 | replace h0 := no h0 | replace h0 := nyes h0 | replace h0 := nno h0)
    refine CW.skip ?_
    refine EX.seq ?_
    refine CW.block ?_
    refine CW.region ?_
    refine OL.q (Y.move rfl) rfl ?_
    refine OL.q (Y.mulN (m := 2) (n := n) (.inr (.inr (.inl rfl))) rfl rfl rfl (by omega)) rfl ?_
    refine OL.q (Y.assign rfl) rfl ?_
    refine OL.nil ?_
    refine EX.norB ?_
    exact EX.next (2 * n) [] (⟨(nb_step hj (by omega) hn).1, (nb_step hj (by omega) hn).2, by omega⟩) (by first | omega | (dsimp only; have := (nb_step hj (by omega) hn).1; omega)) ⟨rfl, rfl, trivial⟩ rfl rfl
  · have bh0 := h0
    repeat (first | replace h0 := yes h0 | replace h0 := no h0 | replace h0 := nyes h0 | replace h0 := nno h0)
    have hne := nb_end hj (by omega) hn
    subst hne
    rw [hNB]
    refine CW.exit ?_
    refine EX.exitT ?_
    refine EX.exitT ?_
    refine EX.exitB ?_
    refine EX.seq ?_
    refine CW.seq ?_
    refine CW.region ?_
    refine OL.q (Y.move rfl) rfl ?_
    refine OL.make (l := NB) (c := NB) Tryd.underlying47 E28 rfl rfl rfl rfl (Nat.le_refl _) (by omega) (by omega) rfl (fun b17 => ⟨rfl, rfl, ?_⟩)
    refine OL.q (Y.assign rfl) rfl ?_
    refine OL.nil ?_
    refine EX.seq ?_
    refine CW.seq ?_
    refine CW.seq ?_
    refine CW.region ?_
    refine OL.q (Y.assign rfl) rfl ?_
    refine OL.nil ?_
    refine EX.seq ?_
    refine CW.block ?_
    generalize hbb : b17 = bb
    refine CW.read (fun _ : Unit => True) (fun _ => [row (some ⟨bb, 0, none⟩) NB NB 28 1 ((List.replicate NB nilB).map buckCells), star ((List.replicate NB nilB).map buckRow)]) (fun h hs => ⟨(), trivial, ?_⟩) (fun _ _ => ?_)
    · rw [show (List.replicate NB nilB).map buckCells = List.replicate NB [Value.slice none 0 0] by simp [buckCells, nilB]]
      exact sl_mid [_] (Y := star _ :: F) (fun k hk => sl_nils NB hk) hs
    refine CW.loop (α := Nat × List BuckC) ⟨(fun q_ => q_.1 ≤ v.tn ∧ Bucks NB ((S.terms.map hashT).take q_.1) q_.2), (fun q_ => [(0, Value.pointer (some { block := r, off := 0 })), (3, Value.int IntKind.i64 ↑NB), (4, Value.slice (some { block := bb, off := 0 }) NB NB), (5, .int .i64 q_.1)]), (fun q_ => [row (some ⟨bb, 0, none⟩) NB NB 28 1 (q_.2.map buckCells), star (q_.2.map buckRow)])⟩
      (fun q_ => (v.tn - q_.1 : Nat)) (0, List.replicate NB nilB) [0, 1] ⟨Nat.zero_le _, bucks_nil _⟩ ⟨rfl, rfl, rfl, rfl, trivial⟩ rfl rfl ?_
    rintro ⟨k, B⟩ ⟨hk, hBk⟩
    dsimp only at hk hBk ⊢
    refine CW.seq ?_
    refine CW.seq ?_
    refine CW.region ?_
    refine OL.q (Y.move rfl) rfl ?_
    refine OL.q (Y.move rfl) rfl ?_
    refine OL.q (Y.nilCheck rfl) rfl ?_
    refine OL.q (Y.field L62_2 rfl) rfl ?_
    refine OL.q (Y.load T60 rfl (Ent.via hF (Up.cellIs _ _ _) (Ent.at 0 rfl (Up.cellIs _ _ _) (blk_cell rfl)))) rfl ?_
    refine OL.q (Y.lenSl Tryd.underlying60 rfl) rfl ?_
    refine OL.q (Y.lss rfl rfl) rfl ?_
    refine OL.nil ?_
    refine EX.seq ?_
    refine CW.cond rfl (fun h1 => ?_) (fun h1 => ?_)
    · have bh1 := h1
      repeat (first | replace h1 := yes h1 | replace h1 := no h1 | replace h1 := nyes h1 | replace h1 := nno h1)
      obtain ⟨y, hy⟩ : ∃ y, S.terms[k]? = some y := ⟨_, List.getElem?_eq_getElem (by rw [hS.tn]; omega)⟩
      obtain ⟨⟨hyr, hyc, hyl⟩, hyn, hys⟩ := hS.terms y (mem_of hy)
      have hyh : (S.terms.map hashT)[k]? = some (hashT y) := by rw [List.getElem?_map, hy]; rfl
      have hyb := hash_bd y
      refine CW.skip ?_
      refine EX.seq ?_
      refine CW.seq ?_
      refine CW.block ?_
      refine CW.seq ?_
      refine CW.region ?_
      refine OL.q (Y.move rfl) rfl ?_
      refine OL.q (Y.nilCheck rfl) rfl ?_
      refine OL.q (Y.field L62_2 rfl) rfl ?_
      refine OL.q (Y.load T60 rfl (Ent.via hF (Up.cellIs _ _ _) (Ent.at 0 rfl (Up.cellIs _ _ _) (blk_cell rfl)))) rfl ?_
      refine OL.q (Y.move rfl) rfl ?_
      refine OL.q (Y.index (k := k) Tryd.underlying60 C30 rfl rfl (Ent.via hF (Up.rd _ _ _ _) (Ent.at 3 rfl (Up.rd _ _ _ _) row_rd)) rfl (by omega)) rfl ?_
      refine OL.q (Y.loadN S30 rfl rfl (rd_at (Ent.via hF (Up.rd _ _ _ _) (Ent.at 3 rfl (Up.rd _ _ _ _) row_rd)) (mget termCells hy))) rfl ?_
      refine OL.call [] (rhash_any y ⟨hyl, hyn⟩ hys) Tryd.call25 rfl rfl rfl rfl (Ent.frame (Up.rd _ _ _ _) (fun h hs => imm_ent (Up.rd _ _ _ _) hyr h (hI h hs))) rfl ?_
      rintro _ _ ⟨rfl, rfl⟩
      refine ⟨rfl, rfl, ?_⟩
      refine OL.q (Y.move rfl) rfl ?_
      refine OL.q (Y.conv Tryd.underlying3 Tryd.underlying49 rfl) rfl ?_
      rw [wrap_nat (show NB ≤ 100000000 by omega)]
      refine OL.q (Y.rem rfl rfl (by omega)) rfl ?_
      rw [tmod_hix hyb.1]
      refine OL.q (Y.convN (.inr (.inr (.inl rfl))) Tryd.underlying49 Tryd.underlying3 rfl (by have := hix_lt (h := hashT y) (n := NB) (by omega); omega)) rfl ?_
      refine OL.q (Y.assign rfl) rfl ?_
      refine OL.nil ?_
      refine EX.seq ?_
      obtain ⟨i, hie⟩ : ∃ i, hix (hashT y) NB = i := ⟨_, rfl⟩
      have hil : i < NB := by rw [← hie]; exact hix_lt (by omega)
      rw [hie]
      obtain ⟨b, hb⟩ : ∃ b, B[i]? = some b := ⟨_, List.getElem?_eq_getElem (by rw [hBk.1]; exact hil)⟩
      have hbo := hBk.2 i b hb
      obtain ⟨B1, B2, rfl, hB1⟩ := cut_at hb
      have hbq := bucketOf_len NB ((S.terms.map hashT).take k) i
      rw [← hbo, List.length_take] at hbq
      refine CW.read (fun _ : Unit => True) (fun _ => [row (some ⟨bb, 0, none⟩) NB NB 28 1 ((B1 ++ b :: B2).map buckCells), star (B1.map buckRow), row b.a b.n b.c 3 1 (b.l.map intCells), star (B2.map buckRow)]) (fun h hs => ⟨(), trivial, ?_⟩) (fun _ _ => ?_)
      · rw [show (B1 ++ b :: B2).map buckRow = B1.map buckRow ++ buckRow b :: B2.map buckRow by simp] at hs
        exact star_out (A := [_]) (C := F) hs
      refine CW.learn (p := b.l.length = b.n) (fun h hs => by
        obtain ⟨_, _, _, _, _, hq, _⟩ := hs.take (i := 2) rfl
        simpa using hq.1) (fun hbl => ?_)
      refine CW.region ?_
      refine OL.q (Y.move rfl) rfl ?_
      refine OL.q (Y.move rfl) rfl ?_
      refine OL.q (Y.move rfl) rfl ?_
      refine OL.q (Y.move rfl) rfl ?_
      refine OL.q (Y.index (k := i) Tryd.underlying47 C28 rfl rfl (Ent.at 0 rfl (Up.rd _ _ _ _) row_rd) rfl (by omega)) rfl ?_
      refine OL.q (Y.load T28 rfl (cellsIs_at0 (rd_at (Ent.at 0 rfl (Up.rd _ _ _ _) row_rd) (mget buckCells hb)) rfl)) rfl ?_
      refine OL.q (Y.move rfl) rfl ?_
      refine OL.buildSlice ([[.int .i64 k]]) Tryd.underlying28 C3 (by decide) rfl (by decide) rfl rfl rfl (fun b46 => ⟨rfl, rfl, ?_⟩)
      refine OL.append [[.int .i64 k]] 2 rfl Tryd.underlying28 E3 rfl rfl (Ent.at 4 rfl (Up.rd _ _ _ _) row_rd) rfl (by omega) (by omega) rfl (fun a47 c47 => ⟨rfl, rfl, ?_⟩)
      refine OL.q (Y.index (k := i) Tryd.underlying47 C28 rfl rfl (Ent.at 0 rfl (Up.rd _ _ _ _) row_rd) rfl (by omega)) rfl ?_
      refine OL.storeRow (k := i) (j := 0) 0 rfl C28 rfl rfl (by omega) rfl rfl rfl (mget buckCells hb) (by simp [buckCells]) ⟨rfl, rfl, ?_⟩
      refine OL.nil ?_
      refine EX.norB ?_
      refine EX.seq ?_
      refine CW.region ?_
      refine OL.q (Y.move rfl) rfl ?_
      refine OL.q (Y.add1 rfl rfl rfl (by omega)) rfl ?_
      refine OL.q (Y.assign rfl) rfl ?_
      refine OL.nil ?_
      subst hB1
      have e7 := set_mid (B1 := B1) (B2 := B2) (b := b) (b' := ⟨a47, b.n + 1, c47, b.l ++ [(k : Int)]⟩) (xs := (buckCells b).set 0 (.slice a47 (b.n + 1) c47)) rfl
      have e8 : (B1 ++ (⟨a47, b.n + 1, c47, b.l ++ [(k : Int)]⟩ : BuckC) :: B2).map buckRow = B1.map buckRow ++ buckRow ⟨a47, b.n + 1, c47, b.l ++ [(k : Int)]⟩ :: B2.map buckRow := by simp
      have e3 : (b.l ++ [(k : Int)]).map intCells = b.l.map intCells ++ [[.int .i64 k]] := by simp [intCells]
      refine EX.read (fun _ : Unit => True) (fun _ => [row (some ⟨bb, 0, none⟩) NB NB 28 1 ((B1 ++ ⟨a47, b.n + 1, c47, b.l ++ [(k : Int)]⟩ :: B2).map buckCells), star ((B1 ++ (⟨a47, b.n + 1, c47, b.l ++ [(k : Int)]⟩ : BuckC) :: B2).map buckRow)]) (fun h hs => ⟨(), trivial, ?_⟩) (fun _ _ => ?_)
      · have h2 := hs.picked (is := [0, 1, 2, 3]) rfl
        rw [e8, ← e7]
        refine star_in (A := [_]) (C := F) ?_
        show sl ([_] ++ star (B1.map buckRow) :: row a47 (b.n + 1) c47 3 1 ((b.l ++ [(k : Int)]).map intCells) :: star (B2.map buckRow) :: F) h
        rw [e3]
        exact h2
      exact EX.next (k + 1, B1 ++ ⟨a47, b.n + 1, c47, b.l ++ [(k : Int)]⟩ :: B2) [0, 1] (show k + 1 ≤ v.tn ∧ Bucks _ _ _ from ⟨by omega, by rw [take_snoc hyh]; exact bucks_put hBk (by omega) (by rw [show ((S.terms.map hashT).take k).length = k by rw [List.length_take, List.length_map, hS.tn]; omega])⟩) (by first | omega | (dsimp only; omega)) ⟨rfl, rfl, rfl, rfl, trivial⟩ rfl rfl
    · have bh1 := h1
      repeat (first | replace h1 := yes h1 | replace h1 := no h1 | replace h1 := nyes h1 | replace h1 := nno h1)
      have hkn : k = v.tn := by omega
      subst hkn
      rw [List.take_of_length_le (by simp [hS.tn])] at hBk
      refine CW.exit ?_
      refine EX.exitT ?_
      refine EX.exitT ?_
      refine EX.exitB ?_
      refine EX.seq ?_
      refine CW.seq ?_
      refine CW.region ?_
      refine OL.q (Y.move rfl) rfl ?_
      refine OL.q (Y.assign rfl) rfl ?_
      refine OL.nil ?_
      refine EX.seq ?_
      refine CW.ret ?_
      exact EX.fin1 [0, 1] rfl rfl rfl ⟨_, _, B, rfl, hBk, rfl⟩
end Go.Proofs.YtmlnnepgigieaaaDoor
