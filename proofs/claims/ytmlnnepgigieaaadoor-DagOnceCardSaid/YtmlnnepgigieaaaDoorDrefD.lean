/- What is wrong with a term, as the document has it. -/
import Derived.Test.YtmlnnepgigieaaaDoorDrefC
namespace Go.Proofs.YtmlnnepgigieaaaDoor
open Go.Sx

theorem L62_3 : Fld Tryd.prog 62 3 3 := ⟨⟨_, Tryd.underlying62, _, rfl, rfl, 1, by decide, Tryd.sizeOf28⟩⟩


def kidAt (x : TermC) (i : Nat) : Int := x.kids.getD i 0
/-- Too many, or too few kids, of all but functions. -/
def cntB (op : Int) (n : Nat) : Bool := (((decide ((op = 1 ∨ op = 2 ∨ op = 4) ∧ 0 < n) || decide (op = 5 ∧ n ≠ 1)) || decide (op = 10 ∧ n ≠ 3)) || decide (op = 18 ∧ n < 1)) || decide (6 ≤ op ∧ op ≠ 10 ∧ op ≠ 18 ∧ n < 2)
theorem cnt_right {op : Int} {n na : Nat} (h1 : 1 ≤ op ∧ op ≤ 19) (h3 : op ≠ 3) : rightB op n na = !cntB op n := by
  unfold rightB cntB
  rw [Bool.eq_iff_iff]
  (repeat' split) <;> simp <;> omega
theorem right3 (n na : Nat) : rightB 3 n na = decide (n = na) := by simp [rightB]
theorem headE_zero {nf : Nat} {x : TermC} (h1 : ¬ (x.op < 1 ∨ 19 < x.op)) (h2 : ¬ (x.op ≠ 3 ∧ x.fn ≠ 0)) (h3 : ¬ ((x.op = 4 ∧ numB x.num = false) ∨ (x.op ≠ 4 ∧ x.num ≠ ⟨#[]⟩))) (h4 : ¬ (x.op = 3 ∧ bad nf x.fn = true)) : headE nf x = 0 := by
  unfold headE
  rw [if_neg h1, if_neg h2, if_neg h3, if_neg h4]
theorem headE_arg {nf : Nat} {x : TermC} (h : x.op < 1 ∨ 19 < x.op ∨ (x.op ≠ 3 ∧ x.fn ≠ 0) ∨ (x.op ≠ 4 ∧ x.num ≠ ⟨#[]⟩) ∨ (x.op = 4 ∧ numB x.num = false)) : headE nf x = 1 := by
  unfold headE
  by_cases h1 : x.op < 1 ∨ 19 < x.op
  · rw [if_pos h1]
  · rw [if_neg h1]
    by_cases h2 : x.op ≠ 3 ∧ x.fn ≠ 0
    · rw [if_pos h2]
    · rw [if_neg h2, if_pos]
      rcases h with h | h | h | h | h
      · exact absurd (.inl h) h1
      · exact absurd (.inr h) h1
      · exact absurd h h2
      · exact .inr h
      · exact .inl h
theorem headE_range {nf : Nat} {x : TermC} (h1 : ¬ (x.op < 1 ∨ 19 < x.op)) (h2 : ¬ (x.op ≠ 3 ∧ x.fn ≠ 0)) (h3 : ¬ ((x.op = 4 ∧ numB x.num = false) ∨ (x.op ≠ 4 ∧ x.num ≠ ⟨#[]⟩))) (h4 : x.op = 3 ∧ bad nf x.fn = true) : headE nf x = 2 := by
  unfold headE
  rw [if_neg h1, if_neg h2, if_neg h3, if_pos h4]
theorem wrongE_0 {S : DagS} {x : TermC} (h : headE S.funs.length x ≠ 0) : wrongE S x = headE S.funs.length x := wrongE_at (k := 0) (by decide) (fun j hj => absurd hj (Nat.not_lt_zero j)) h
theorem errs1 {S : DagS} {x : TermC} (h0 : errs S x 0 = 0) : ∀ j, j < 1 → errs S x j = 0 := fun j hj => by
  have : j = 0 := by omega
  rw [this]; exact h0
theorem errs2 {S : DagS} {x : TermC} (h0 : errs S x 0 = 0) (h1 : errs S x 1 = 0) : ∀ j, j < 2 → errs S x j = 0 := fun j hj => by
  rcases (show j = 0 ∨ j = 1 by omega) with rfl | rfl
  · exact h0
  · exact h1
theorem errs3 {S : DagS} {x : TermC} (h0 : errs S x 0 = 0) (h1 : errs S x 1 = 0) (h2 : errs S x 2 = 0) : ∀ j, j < 3 → errs S x j = 0 := fun j hj => by
  rcases (show j < 2 ∨ j = 2 by omega) with h | rfl
  · exact errs2 h0 h1 j h
  · exact h2
theorem errs4 {S : DagS} {x : TermC} (h0 : errs S x 0 = 0) (h1 : errs S x 1 = 0) (h2 : errs S x 2 = 0) (h3 : errs S x 3 = 0) : ∀ j, j < 4 → errs S x j = 0 := fun j hj => by
  rcases (show j < 3 ∨ j = 3 by omega) with h | rfl
  · exact errs3 h0 h1 h2 j h
  · exact h3
theorem errs5 {S : DagS} {x : TermC} (h0 : errs S x 0 = 0) (h1 : errs S x 1 = 0) (h2 : errs S x 2 = 0) (h3 : errs S x 3 = 0) (h4 : errs S x 4 = 0) : ∀ j, j < 5 → errs S x j = 0 := fun j hj => by
  rcases (show j < 4 ∨ j = 4 by omega) with h | rfl
  · exact errs4 h0 h1 h2 h3 j h
  · exact h4
theorem noText {x : TermC} (hz : ¬ (x.op < 1 ∨ 19 < x.op ∨ (x.op ≠ 3 ∧ x.fn ≠ 0) ∨ (x.op ≠ 4 ∧ x.num ≠ ⟨#[]⟩))) (h4 : x.op = 4 → numB x.num = true) : ¬ ((x.op = 4 ∧ numB x.num = false) ∨ (x.op ≠ 4 ∧ x.num ≠ ⟨#[]⟩)) := by
  rintro (⟨h, h'⟩ | h)
  · rw [h4 h] at h'; cases h'
  · exact hz (.inr (.inr (.inr h)))
def Pre1 (nf : Nat) (x : TermC) : Prop := ¬ (x.op < 1 ∨ 19 < x.op) ∧ ¬ (x.op ≠ 3 ∧ x.fn ≠ 0) ∧ ¬ ((x.op = 4 ∧ numB x.num = false) ∨ (x.op ≠ 4 ∧ x.num ≠ ⟨#[]⟩)) ∧ ¬ (x.op = 3 ∧ bad nf x.fn = true)
theorem numB_of {s : ByteArray} (h1 : ¬ (s.size < 1 ∨ 10000 < s.size ∨ (1 < s.size ∧ at0 s 0 = 48))) (h2 : ∀ j, j < s.size → digB s j = true) : numB s = true := by
  unfold numB
  rw [all_range.2 h2, decide_eq_false (show ¬ s.size = 0 by omega), decide_eq_false (show ¬ 10000 < s.size by omega)]
  by_cases hs : 1 < s.size
  · rw [decide_eq_true hs, decide_eq_false (show ¬ at0 s 0 = 48 by omega)]; rfl
  · rw [decide_eq_false hs]; rfl
theorem numB_no {s : ByteArray} (h1 : s.size < 1 ∨ 10000 < s.size ∨ (1 < s.size ∧ at0 s 0 = 48)) : numB s = false := by
  unfold numB
  rcases h1 with h | h | ⟨h, h'⟩
  · rw [decide_eq_true (show s.size = 0 by omega)]; simp
  · rw [decide_eq_true h]; simp
  · rw [decide_eq_true h, decide_eq_true h']; simp
theorem numB_dig {s : ByteArray} {k : Nat} (hk : k < s.size) (h : digB s k = false) : numB s = false := by
  unfold numB
  rw [not_all_range hk h]; simp
theorem filt_snoc {S : DagS} {l : List Int} {k : Nat} {x : Int} (h : l[k]? = some x) : freeK S (l.take (k + 1)) = freeK S (l.take k) + (if consAt S x = true then 0 else 1) := by
  unfold freeK
  rw [take_snoc h, List.filter_append, List.length_append]
  cases hb : consAt S x <;> simp [hb]


set_option maxRecDepth 10000 in
set_option maxHeartbeats 4000000 in
theorem rwrong_any (r : Nat) (S : DagS) (v : DagV) (M : PH) (hS : RfOk M S v) (hC : ConsOk S) (x : TermC) (hx : x.Ok M) (hn : x.n ≤ 1000000) (hnum : x.num.size ≤ 1000000) :
    FS Tryd.prog 90 [.pointer (some ⟨r, 0, none⟩), termVal x] (fun h => sl (refL r S v) h ∧ le M h) [] (fun q H => q = .tuple #[.int .i64 (wrongE S x), .int .i64 (if wrongE S x = 0 then resE S x else 0)] ∧ H = []) := by
  refine FS.intro (N := 332) Tryd.func90 rfl rfl rfl (fun F w0 hF => ?_)
  have hF0 := hF
  have hI : Ent F (imm M) := fun h hs => (hF0 h hs).2
  replace hF : Ent F (fun h => sl (refL r S v) h) := fun h hs => (hF0 h hs).1
  obtain ⟨hxr, hxc, hxl⟩ := hx
  have hsm := hS.small
  have hov := hS.onv
  refine CW.seq ?_
  refine CW.region ?_
  refine OL.box rfl rfl rfl (fun b3 => ⟨rfl, rfl, ?_⟩)
  refine OL.q (Y.assign rfl) rfl ?_
  refine OL.q (Y.assign rfl) rfl ?_
  refine OL.nil ?_
  refine EX.seq ?_
  refine CW.seq ?_
  refine CW.seq ?_
  refine CW.region ?_
  refine OL.cutAt (α := Bool) 28 ⟨(fun z => z = decide (x.op < 1 ∨ 19 < x.op ∨ (x.op ≠ 3 ∧ x.fn ≠ 0) ∨ (x.op ≠ 4 ∧ x.num ≠ ⟨#[]⟩))), (fun z => [(0, Value.pointer (some { block := r, off := 0 })), (3, Value.pointer (some { block := b3, off := 0 })), (40, .bool z)]), (fun z => [blk b3 (termCells x) 30])⟩ ?_ ?_
  ·
    refine OL.q (Y.field L30_0 rfl) rfl ?_
    refine OL.q (Y.load T3 rfl (Ent.at 0 rfl (Up.cellIs _ _ _) (blk_cell rfl))) rfl ?_
    refine OL.q (Y.lss rfl rfl) rfl ?_
    refine OL.q (Y.move rfl) rfl ?_
    refine OL.guard (s := 16) rfl (fun g1_3 => ?_) (fun g1_3 => ?_)
    · have ng1_3 := g1_3
      repeat (first | replace ng1_3 := yes ng1_3 | replace ng1_3 := no ng1_3 | replace ng1_3 := nyes ng1_3 | replace ng1_3 := nno ng1_3)
      refine OL.no g1_3 rfl rfl rfl ?_
      refine OL.no g1_3 rfl rfl rfl ?_
      refine OL.no g1_3 rfl rfl rfl ?_
      refine OL.q (Y.pickT rfl g1_3 rfl) rfl ?_
      refine OL.q (Y.move rfl) rfl ?_
      have g1_8 : true = true := rfl
      refine OL.no g1_8 rfl rfl rfl ?_
      refine OL.no g1_8 rfl rfl rfl ?_
      refine OL.no g1_8 rfl rfl rfl ?_
      refine OL.no g1_8 rfl rfl rfl ?_
      refine OL.dead rfl rfl rfl ?_
      refine OL.dead rfl rfl rfl ?_
      refine OL.dead rfl rfl rfl ?_
      refine OL.no g1_8 rfl rfl rfl ?_
      refine OL.q (Y.pickT rfl g1_8 rfl) rfl ?_
      refine OL.q (Y.move rfl) rfl ?_
      have g1_18 : true = true := rfl
      refine OL.no g1_18 rfl rfl rfl ?_
      refine OL.no g1_18 rfl rfl rfl ?_
      refine OL.no g1_18 rfl rfl rfl ?_
      refine OL.no g1_18 rfl rfl rfl ?_
      refine OL.dead rfl rfl rfl ?_
      refine OL.dead rfl rfl rfl ?_
      refine OL.dead rfl rfl rfl ?_
      refine OL.no g1_18 rfl rfl rfl ?_
      refine OL.q (Y.pickT rfl g1_18 rfl) rfl ?_
      refine OL.nil ?_
      exact EX.meet _ [0] (by dsimp only; first | exact (decide_eq_true (by omega)).symm | exact (decide_eq_false (by omega)).symm | exact decide_eq_decide.2 (by omega) | (simp [*]; done) | (rw [Bool.eq_iff_iff]; simp [*]; done) | (rw [Bool.eq_iff_iff]; simp; omega) | (rw [Bool.eq_iff_iff]; simp [*]; omega)) ⟨rfl, rfl, rfl, trivial⟩ rfl rfl
    · have ng1_3 := g1_3
      repeat (first | replace ng1_3 := yes ng1_3 | replace ng1_3 := no ng1_3 | replace ng1_3 := nyes ng1_3 | replace ng1_3 := nno ng1_3)
      refine OL.on g1_3 rfl rfl ?_
      refine OL.q (Y.field L30_0 rfl) rfl ?_
      refine OL.on g1_3 rfl rfl ?_
      refine OL.q (Y.load T3 rfl (Ent.at 0 rfl (Up.cellIs _ _ _) (blk_cell rfl))) rfl ?_
      refine OL.on g1_3 rfl rfl ?_
      refine OL.q (Y.gtr rfl rfl) rfl ?_
      refine OL.q (Y.pickF rfl g1_3 rfl) rfl ?_
      refine OL.q (Y.move rfl) rfl ?_
      refine OL.guard (s := 21) rfl (fun g1_8 => ?_) (fun g1_8 => ?_)
      · have ng1_8 := g1_8
        repeat (first | replace ng1_8 := yes ng1_8 | replace ng1_8 := no ng1_8 | replace ng1_8 := nyes ng1_8 | replace ng1_8 := nno ng1_8)
        refine OL.no g1_8 rfl rfl rfl ?_
        refine OL.no g1_8 rfl rfl rfl ?_
        refine OL.no g1_8 rfl rfl rfl ?_
        refine OL.no g1_8 rfl rfl rfl ?_
        refine OL.dead rfl rfl rfl ?_
        refine OL.dead rfl rfl rfl ?_
        refine OL.dead rfl rfl rfl ?_
        refine OL.no g1_8 rfl rfl rfl ?_
        refine OL.q (Y.pickT rfl g1_8 rfl) rfl ?_
        refine OL.q (Y.move rfl) rfl ?_
        have g1_18 : true = true := rfl
        refine OL.no g1_18 rfl rfl rfl ?_
        refine OL.no g1_18 rfl rfl rfl ?_
        refine OL.no g1_18 rfl rfl rfl ?_
        refine OL.no g1_18 rfl rfl rfl ?_
        refine OL.dead rfl rfl rfl ?_
        refine OL.dead rfl rfl rfl ?_
        refine OL.dead rfl rfl rfl ?_
        refine OL.no g1_18 rfl rfl rfl ?_
        refine OL.q (Y.pickT rfl g1_18 rfl) rfl ?_
        refine OL.nil ?_
        exact EX.meet _ [0] (by dsimp only; first | exact (decide_eq_true (by omega)).symm | exact (decide_eq_false (by omega)).symm | exact decide_eq_decide.2 (by omega) | (simp [*]; done) | (rw [Bool.eq_iff_iff]; simp [*]; done) | (rw [Bool.eq_iff_iff]; simp; omega) | (rw [Bool.eq_iff_iff]; simp [*]; omega)) ⟨rfl, rfl, rfl, trivial⟩ rfl rfl
      · have ng1_8 := g1_8
        repeat (first | replace ng1_8 := yes ng1_8 | replace ng1_8 := no ng1_8 | replace ng1_8 := nyes ng1_8 | replace ng1_8 := nno ng1_8)
        refine OL.on g1_8 rfl rfl ?_
        refine OL.q (Y.field L30_0 rfl) rfl ?_
        refine OL.on g1_8 rfl rfl ?_
        refine OL.q (Y.load T3 rfl (Ent.at 0 rfl (Up.cellIs _ _ _) (blk_cell rfl))) rfl ?_
        refine OL.on g1_8 rfl rfl ?_
        refine OL.q (Y.neq rfl rfl) rfl ?_
        refine OL.on g1_8 rfl rfl ?_
        refine OL.q (Y.move rfl) rfl ?_
        refine OL.guard (s := 25) rfl (fun g1_12 => ?_) (fun g1_12 => ?_)
        · have ng1_12 := g1_12
          repeat (first | replace ng1_12 := yes ng1_12 | replace ng1_12 := no ng1_12 | replace ng1_12 := nyes ng1_12 | replace ng1_12 := nno ng1_12)
          refine OL.on g1_12 rfl rfl ?_
          refine OL.q (Y.field L30_1 rfl) rfl ?_
          refine OL.on g1_12 rfl rfl ?_
          refine OL.q (Y.load T3 rfl (Ent.at 0 rfl (Up.cellIs _ _ _) (blk_cell rfl))) rfl ?_
          refine OL.on g1_12 rfl rfl ?_
          refine OL.q (Y.neq rfl rfl) rfl ?_
          refine OL.on g1_8 rfl rfl ?_
          refine OL.q (Y.pickT rfl g1_12 rfl) rfl ?_
          refine OL.q (Y.pickF rfl g1_8 rfl) rfl ?_
          refine OL.q (Y.move rfl) rfl ?_
          refine OL.guard (s := 31) rfl (fun g1_18 => ?_) (fun g1_18 => ?_)
          · have ng1_18 := g1_18
            repeat (first | replace ng1_18 := yes ng1_18 | replace ng1_18 := no ng1_18 | replace ng1_18 := nyes ng1_18 | replace ng1_18 := nno ng1_18)
            refine OL.no g1_18 rfl rfl rfl ?_
            refine OL.no g1_18 rfl rfl rfl ?_
            refine OL.no g1_18 rfl rfl rfl ?_
            refine OL.no g1_18 rfl rfl rfl ?_
            refine OL.dead rfl rfl rfl ?_
            refine OL.dead rfl rfl rfl ?_
            refine OL.dead rfl rfl rfl ?_
            refine OL.no g1_18 rfl rfl rfl ?_
            refine OL.q (Y.pickT rfl g1_18 rfl) rfl ?_
            refine OL.nil ?_
            exact EX.meet _ [0] (by dsimp only; first | exact (decide_eq_true (by omega)).symm | exact (decide_eq_false (by omega)).symm | exact decide_eq_decide.2 (by omega) | (simp [*]; done) | (rw [Bool.eq_iff_iff]; simp [*]; done) | (rw [Bool.eq_iff_iff]; simp; omega) | (rw [Bool.eq_iff_iff]; simp [*]; omega)) ⟨rfl, rfl, rfl, trivial⟩ rfl rfl
          · have ng1_18 := g1_18
            repeat (first | replace ng1_18 := yes ng1_18 | replace ng1_18 := no ng1_18 | replace ng1_18 := nyes ng1_18 | replace ng1_18 := nno ng1_18)
            refine OL.on g1_18 rfl rfl ?_
            refine OL.q (Y.field L30_0 rfl) rfl ?_
            refine OL.on g1_18 rfl rfl ?_
            refine OL.q (Y.load T3 rfl (Ent.at 0 rfl (Up.cellIs _ _ _) (blk_cell rfl))) rfl ?_
            refine OL.on g1_18 rfl rfl ?_
            refine OL.q (Y.neq rfl rfl) rfl ?_
            refine OL.on g1_18 rfl rfl ?_
            refine OL.q (Y.move rfl) rfl ?_
            refine OL.guard (s := 35) rfl (fun g1_22 => ?_) (fun g1_22 => ?_)
            · have ng1_22 := g1_22
              repeat (first | replace ng1_22 := yes ng1_22 | replace ng1_22 := no ng1_22 | replace ng1_22 := nyes ng1_22 | replace ng1_22 := nno ng1_22)
              refine OL.on g1_22 rfl rfl ?_
              refine OL.q (Y.field L30_3 rfl) rfl ?_
              refine OL.on g1_22 rfl rfl ?_
              refine OL.q (Y.load T9 rfl (Ent.at 0 rfl (Up.cellIs _ _ _) (blk_cell rfl))) rfl ?_
              refine OL.on g1_22 rfl rfl ?_
              refine OL.q (Y.neqS rfl rfl) rfl ?_
              refine OL.on g1_18 rfl rfl ?_
              refine OL.q (Y.pickT rfl g1_22 rfl) rfl ?_
              refine OL.q (Y.pickF rfl g1_18 rfl) rfl ?_
              refine OL.nil ?_
              exact EX.meet _ [0] (by dsimp only; first | exact (decide_eq_true (by omega)).symm | exact (decide_eq_false (by omega)).symm | exact decide_eq_decide.2 (by omega) | (simp [*]; done) | (rw [Bool.eq_iff_iff]; simp [*]; done) | (rw [Bool.eq_iff_iff]; simp; omega) | (rw [Bool.eq_iff_iff]; simp [*]; omega)) ⟨rfl, rfl, rfl, trivial⟩ rfl rfl
            · have ng1_22 := g1_22
              repeat (first | replace ng1_22 := yes ng1_22 | replace ng1_22 := no ng1_22 | replace ng1_22 := nyes ng1_22 | replace ng1_22 := nno ng1_22)
              refine OL.no g1_22 rfl rfl rfl ?_
              refine OL.no g1_22 rfl rfl rfl ?_
              refine OL.no g1_22 rfl rfl rfl ?_
              refine OL.on g1_18 rfl rfl ?_
              refine OL.q (Y.pickF rfl g1_22 rfl) rfl ?_
              refine OL.q (Y.pickF rfl g1_18 rfl) rfl ?_
              refine OL.nil ?_
              exact EX.meet _ [0] (by dsimp only; first | exact (decide_eq_true (by omega)).symm | exact (decide_eq_false (by omega)).symm | exact decide_eq_decide.2 (by omega) | (simp [*]; done) | (rw [Bool.eq_iff_iff]; simp [*]; done) | (rw [Bool.eq_iff_iff]; simp; omega) | (rw [Bool.eq_iff_iff]; simp [*]; omega)) ⟨rfl, rfl, rfl, trivial⟩ rfl rfl
        · have ng1_12 := g1_12
          repeat (first | replace ng1_12 := yes ng1_12 | replace ng1_12 := no ng1_12 | replace ng1_12 := nyes ng1_12 | replace ng1_12 := nno ng1_12)
          refine OL.no g1_12 rfl rfl rfl ?_
          refine OL.no g1_12 rfl rfl rfl ?_
          refine OL.no g1_12 rfl rfl rfl ?_
          refine OL.on g1_8 rfl rfl ?_
          refine OL.q (Y.pickF rfl g1_12 rfl) rfl ?_
          refine OL.q (Y.pickF rfl g1_8 rfl) rfl ?_
          refine OL.q (Y.move rfl) rfl ?_
          have g1_18 : false = false := rfl
          refine OL.on g1_18 rfl rfl ?_
          refine OL.q (Y.field L30_0 rfl) rfl ?_
          refine OL.on g1_18 rfl rfl ?_
          refine OL.q (Y.load T3 rfl (Ent.at 0 rfl (Up.cellIs _ _ _) (blk_cell rfl))) rfl ?_
          refine OL.on g1_18 rfl rfl ?_
          refine OL.q (Y.neq rfl rfl) rfl ?_
          refine OL.on g1_18 rfl rfl ?_
          refine OL.q (Y.move rfl) rfl ?_
          refine OL.guard (s := 35) rfl (fun g1_22 => ?_) (fun g1_22 => ?_)
          · have ng1_22 := g1_22
            repeat (first | replace ng1_22 := yes ng1_22 | replace ng1_22 := no ng1_22 | replace ng1_22 := nyes ng1_22 | replace ng1_22 := nno ng1_22)
            refine OL.on g1_22 rfl rfl ?_
            refine OL.q (Y.field L30_3 rfl) rfl ?_
            refine OL.on g1_22 rfl rfl ?_
            refine OL.q (Y.load T9 rfl (Ent.at 0 rfl (Up.cellIs _ _ _) (blk_cell rfl))) rfl ?_
            refine OL.on g1_22 rfl rfl ?_
            refine OL.q (Y.neqS rfl rfl) rfl ?_
            refine OL.on g1_18 rfl rfl ?_
            refine OL.q (Y.pickT rfl g1_22 rfl) rfl ?_
            refine OL.q (Y.pickF rfl g1_18 rfl) rfl ?_
            refine OL.nil ?_
            exact EX.meet _ [0] (by dsimp only; first | exact (decide_eq_true (by omega)).symm | exact (decide_eq_false (by omega)).symm | exact decide_eq_decide.2 (by omega) | (simp [*]; done) | (rw [Bool.eq_iff_iff]; simp [*]; done) | (rw [Bool.eq_iff_iff]; simp; omega) | (rw [Bool.eq_iff_iff]; simp [*]; omega)) ⟨rfl, rfl, rfl, trivial⟩ rfl rfl
          · have ng1_22 := g1_22
            repeat (first | replace ng1_22 := yes ng1_22 | replace ng1_22 := no ng1_22 | replace ng1_22 := nyes ng1_22 | replace ng1_22 := nno ng1_22)
            refine OL.no g1_22 rfl rfl rfl ?_
            refine OL.no g1_22 rfl rfl rfl ?_
            refine OL.no g1_22 rfl rfl rfl ?_
            refine OL.on g1_18 rfl rfl ?_
            refine OL.q (Y.pickF rfl g1_22 rfl) rfl ?_
            refine OL.q (Y.pickF rfl g1_18 rfl) rfl ?_
            refine OL.nil ?_
            exact EX.meet _ [0] (by dsimp only; first | exact (decide_eq_true (by omega)).symm | exact (decide_eq_false (by omega)).symm | exact decide_eq_decide.2 (by omega) | (simp [*]; done) | (rw [Bool.eq_iff_iff]; simp [*]; done) | (rw [Bool.eq_iff_iff]; simp; omega) | (rw [Bool.eq_iff_iff]; simp [*]; omega)) ⟨rfl, rfl, rfl, trivial⟩ rfl rfl
  ·
    rintro z hz
    dsimp only at hz ⊢
    refine OL.nil ?_
    refine EX.seq ?_
    refine CW.cond rfl (fun h0 => ?_) (fun h0 => ?_)
    · have bh0 := h0
      repeat (first | replace h0 := yes h0 | replace h0 := no h0 | replace h0 := nyes h0 | replace h0 := nno h0)
      rw [h0] at hz
      have hz1 := of_decide_eq_true hz.symm
      refine CW.seq ?_
      refine CW.region ?_
      refine OL.q (Y.assign rfl) rfl ?_
      refine OL.q (Y.assign rfl) rfl ?_
      refine OL.nil ?_
      refine EX.seq ?_
      refine CW.ret ?_
      refine EX.retT ?_
      have he : headE S.funs.length x = 1 := headE_arg (by rcases hz1 with h | h | h | h <;> simp [h])
      exact EX.fin2 [] rfl rfl rfl rfl ⟨by rw [wrongE_0 (by rw [he]; decide), he]; rfl, rfl⟩
    · have bh0 := h0
      repeat (first | replace h0 := yes h0 | replace h0 := no h0 | replace h0 := nyes h0 | replace h0 := nno h0)
      rw [h0] at hz
      have hz1 := of_decide_eq_false hz.symm
      refine CW.skip ?_
      refine EX.seq ?_
      refine CW.cut (α := Unit) ⟨(fun _ => x.op = 4 → numB x.num = true), (fun _ => [(0, Value.pointer (some { block := r, off := 0 })), (3, Value.pointer (some { block := b3, off := 0 }))]), (fun _ => [blk b3 (termCells x) 30])⟩ ?_ ?_
      ·
        refine CW.seq ?_
        refine CW.region ?_
        refine OL.q (Y.field L30_0 rfl) rfl ?_
        refine OL.q (Y.load T3 rfl (Ent.at 0 rfl (Up.cellIs _ _ _) (blk_cell rfl))) rfl ?_
        refine OL.q (Y.eql rfl rfl) rfl ?_
        refine OL.nil ?_
        refine EX.seq ?_
        refine CW.cond rfl (fun h1 => ?_) (fun h1 => ?_)
        · have bh1 := h1
          repeat (first | replace h1 := yes h1 | replace h1 := no h1 | replace h1 := nyes h1 | replace h1 := nno h1)
          refine CW.seq ?_
          refine CW.seq ?_
          refine CW.region ?_
          refine OL.cutAt (α := Bool) 22 ⟨(fun z4 => z4 = decide (x.num.size < 1 ∨ 10000 < x.num.size ∨ (1 < x.num.size ∧ at0 x.num 0 = 48))), (fun z4 => [(0, Value.pointer (some { block := r, off := 0 })), (3, Value.pointer (some { block := b3, off := 0 })), (65, .bool z4)]), (fun z4 => [blk b3 (termCells x) 30])⟩ ?_ ?_
          ·
            refine OL.q (Y.field L30_3 rfl) rfl ?_
            refine OL.q (Y.load T9 rfl (Ent.at 0 rfl (Up.cellIs _ _ _) (blk_cell rfl))) rfl ?_
            refine OL.q (Y.lenStr Tryd.underlying9 rfl) rfl ?_
            refine OL.q (Y.lss rfl rfl) rfl ?_
            refine OL.q (Y.move rfl) rfl ?_
            refine OL.guard (s := 48) rfl (fun g4_4 => ?_) (fun g4_4 => ?_)
            · have ng4_4 := g4_4
              repeat (first | replace ng4_4 := yes ng4_4 | replace ng4_4 := no ng4_4 | replace ng4_4 := nyes ng4_4 | replace ng4_4 := nno ng4_4)
              refine OL.no g4_4 rfl rfl rfl ?_
              refine OL.no g4_4 rfl rfl rfl ?_
              refine OL.no g4_4 rfl rfl rfl ?_
              refine OL.no g4_4 rfl rfl rfl ?_
              refine OL.q (Y.pickT rfl g4_4 rfl) rfl ?_
              refine OL.q (Y.move rfl) rfl ?_
              have g4_10 : true = true := rfl
              refine OL.no g4_10 rfl rfl rfl ?_
              refine OL.no g4_10 rfl rfl rfl ?_
              refine OL.no g4_10 rfl rfl rfl ?_
              refine OL.no g4_10 rfl rfl rfl ?_
              refine OL.no g4_10 rfl rfl rfl ?_
              refine OL.dead rfl rfl rfl ?_
              refine OL.dead rfl rfl rfl ?_
              refine OL.dead rfl rfl rfl ?_
              refine OL.dead rfl rfl rfl ?_
              refine OL.no g4_10 rfl rfl rfl ?_
              refine OL.q (Y.pickT rfl g4_10 rfl) rfl ?_
              refine OL.nil ?_
              exact EX.meet _ [0] (by dsimp only; first | exact (decide_eq_true (by omega)).symm | exact (decide_eq_false (by omega)).symm | exact decide_eq_decide.2 (by omega) | (simp [*]; done) | (rw [Bool.eq_iff_iff]; simp [*]; done) | (rw [Bool.eq_iff_iff]; simp; omega) | (rw [Bool.eq_iff_iff]; simp [*]; omega)) ⟨rfl, rfl, rfl, trivial⟩ rfl rfl
            · have ng4_4 := g4_4
              repeat (first | replace ng4_4 := yes ng4_4 | replace ng4_4 := no ng4_4 | replace ng4_4 := nyes ng4_4 | replace ng4_4 := nno ng4_4)
              refine OL.on g4_4 rfl rfl ?_
              refine OL.q (Y.field L30_3 rfl) rfl ?_
              refine OL.on g4_4 rfl rfl ?_
              refine OL.q (Y.load T9 rfl (Ent.at 0 rfl (Up.cellIs _ _ _) (blk_cell rfl))) rfl ?_
              refine OL.on g4_4 rfl rfl ?_
              refine OL.q (Y.lenStr Tryd.underlying9 rfl) rfl ?_
              refine OL.on g4_4 rfl rfl ?_
              refine OL.q (Y.gtr rfl rfl) rfl ?_
              refine OL.q (Y.pickF rfl g4_4 rfl) rfl ?_
              refine OL.q (Y.move rfl) rfl ?_
              refine OL.guard (s := 54) rfl (fun g4_10 => ?_) (fun g4_10 => ?_)
              · have ng4_10 := g4_10
                repeat (first | replace ng4_10 := yes ng4_10 | replace ng4_10 := no ng4_10 | replace ng4_10 := nyes ng4_10 | replace ng4_10 := nno ng4_10)
                refine OL.no g4_10 rfl rfl rfl ?_
                refine OL.no g4_10 rfl rfl rfl ?_
                refine OL.no g4_10 rfl rfl rfl ?_
                refine OL.no g4_10 rfl rfl rfl ?_
                refine OL.no g4_10 rfl rfl rfl ?_
                refine OL.dead rfl rfl rfl ?_
                refine OL.dead rfl rfl rfl ?_
                refine OL.dead rfl rfl rfl ?_
                refine OL.dead rfl rfl rfl ?_
                refine OL.no g4_10 rfl rfl rfl ?_
                refine OL.q (Y.pickT rfl g4_10 rfl) rfl ?_
                refine OL.nil ?_
                exact EX.meet _ [0] (by dsimp only; first | exact (decide_eq_true (by omega)).symm | exact (decide_eq_false (by omega)).symm | exact decide_eq_decide.2 (by omega) | (simp [*]; done) | (rw [Bool.eq_iff_iff]; simp [*]; done) | (rw [Bool.eq_iff_iff]; simp; omega) | (rw [Bool.eq_iff_iff]; simp [*]; omega)) ⟨rfl, rfl, rfl, trivial⟩ rfl rfl
              · have ng4_10 := g4_10
                repeat (first | replace ng4_10 := yes ng4_10 | replace ng4_10 := no ng4_10 | replace ng4_10 := nyes ng4_10 | replace ng4_10 := nno ng4_10)
                refine OL.on g4_10 rfl rfl ?_
                refine OL.q (Y.field L30_3 rfl) rfl ?_
                refine OL.on g4_10 rfl rfl ?_
                refine OL.q (Y.load T9 rfl (Ent.at 0 rfl (Up.cellIs _ _ _) (blk_cell rfl))) rfl ?_
                refine OL.on g4_10 rfl rfl ?_
                refine OL.q (Y.lenStr Tryd.underlying9 rfl) rfl ?_
                refine OL.on g4_10 rfl rfl ?_
                refine OL.q (Y.gtr rfl rfl) rfl ?_
                refine OL.on g4_10 rfl rfl ?_
                refine OL.q (Y.move rfl) rfl ?_
                refine OL.guard (s := 59) rfl (fun g4_15 => ?_) (fun g4_15 => ?_)
                · have ng4_15 := g4_15
                  repeat (first | replace ng4_15 := yes ng4_15 | replace ng4_15 := no ng4_15 | replace ng4_15 := nyes ng4_15 | replace ng4_15 := nno ng4_15)
                  refine OL.on g4_15 rfl rfl ?_
                  refine OL.q (Y.field L30_3 rfl) rfl ?_
                  refine OL.on g4_15 rfl rfl ?_
                  refine OL.q (Y.load T9 rfl (Ent.at 0 rfl (Up.cellIs _ _ _) (blk_cell rfl))) rfl ?_
                  refine OL.on g4_15 rfl rfl ?_
                  refine OL.q (indexStr0 (k := 0) Tryd.underlying9 rfl rfl rfl (by omega)) rfl ?_
                  refine OL.on g4_15 rfl rfl ?_
                  refine OL.q (Y.eql rfl rfl) rfl ?_
                  refine OL.on g4_10 rfl rfl ?_
                  refine OL.q (Y.pickT rfl g4_15 rfl) rfl ?_
                  refine OL.q (Y.pickF rfl g4_10 rfl) rfl ?_
                  refine OL.nil ?_
                  exact EX.meet _ [0] (by dsimp only; first | exact (decide_eq_true (by omega)).symm | exact (decide_eq_false (by omega)).symm | exact decide_eq_decide.2 (by omega) | (simp [*]; done) | (rw [Bool.eq_iff_iff]; simp [*]; done) | (rw [Bool.eq_iff_iff]; simp; omega) | (rw [Bool.eq_iff_iff]; simp [*]; omega)) ⟨rfl, rfl, rfl, trivial⟩ rfl rfl
                · have ng4_15 := g4_15
                  repeat (first | replace ng4_15 := yes ng4_15 | replace ng4_15 := no ng4_15 | replace ng4_15 := nyes ng4_15 | replace ng4_15 := nno ng4_15)
                  refine OL.no g4_15 rfl rfl rfl ?_
                  refine OL.no g4_15 rfl rfl rfl ?_
                  refine OL.no g4_15 rfl rfl rfl ?_
                  refine OL.no g4_15 rfl rfl rfl ?_
                  refine OL.on g4_10 rfl rfl ?_
                  refine OL.q (Y.pickF rfl g4_15 rfl) rfl ?_
                  refine OL.q (Y.pickF rfl g4_10 rfl) rfl ?_
                  refine OL.nil ?_
                  exact EX.meet _ [0] (by dsimp only; first | exact (decide_eq_true (by omega)).symm | exact (decide_eq_false (by omega)).symm | exact decide_eq_decide.2 (by omega) | (simp [*]; done) | (rw [Bool.eq_iff_iff]; simp [*]; done) | (rw [Bool.eq_iff_iff]; simp; omega) | (rw [Bool.eq_iff_iff]; simp [*]; omega)) ⟨rfl, rfl, rfl, trivial⟩ rfl rfl
          ·
            rintro z4 hz4
            dsimp only at hz4 ⊢
            refine OL.nil ?_
            refine EX.seq ?_
            refine CW.cond rfl (fun h2 => ?_) (fun h2 => ?_)
            · have bh2 := h2
              repeat (first | replace h2 := yes h2 | replace h2 := no h2 | replace h2 := nyes h2 | replace h2 := nno h2)
              rw [h2] at hz4
              have hz5 := numB_no (of_decide_eq_true hz4.symm)
              refine CW.seq ?_
              refine CW.region ?_
              refine OL.q (Y.assign rfl) rfl ?_
              refine OL.q (Y.assign rfl) rfl ?_
              refine OL.nil ?_
              refine EX.seq ?_
              refine CW.ret ?_
              refine EX.retT ?_
              refine EX.retT ?_
              have he : headE S.funs.length x = 1 := headE_arg (.inr (.inr (.inr (.inr ⟨h1, hz5⟩))))
              exact EX.fin2 [] rfl rfl rfl rfl ⟨by rw [wrongE_0 (by rw [he]; decide), he]; rfl, rfl⟩
            · have bh2 := h2
              repeat (first | replace h2 := yes h2 | replace h2 := no h2 | replace h2 := nyes h2 | replace h2 := nno h2)
              rw [h2] at hz4
              have hz5 := of_decide_eq_false hz4.symm
              refine CW.skip ?_
              refine EX.seq ?_
              refine CW.seq ?_
              refine CW.region ?_
              refine OL.q (Y.assign rfl) rfl ?_
              refine OL.nil ?_
              refine EX.seq ?_
              refine CW.block ?_
              refine CW.loop (α := Nat) ⟨(fun k => k ≤ x.num.size ∧ ∀ j, j < k → digB x.num j = true), (fun k => [(0, Value.pointer (some { block := r, off := 0 })), (3, Value.pointer (some { block := b3, off := 0 })), (6, .int .i64 k)]), (fun k => [blk b3 (termCells x) 30])⟩
                (fun k => (x.num.size - k : Nat)) 0 [0] ⟨Nat.zero_le _, fun j h => absurd h (Nat.not_lt_zero j)⟩ ⟨rfl, rfl, rfl, trivial⟩ rfl rfl ?_
              rintro k ⟨hk, hj⟩
              dsimp only at hk hj ⊢
              refine CW.seq ?_
              refine CW.seq ?_
              refine CW.region ?_
              refine OL.q (Y.move rfl) rfl ?_
              refine OL.q (Y.field L30_3 rfl) rfl ?_
              refine OL.q (Y.load T9 rfl (Ent.at 0 rfl (Up.cellIs _ _ _) (blk_cell rfl))) rfl ?_
              refine OL.q (Y.lenStr Tryd.underlying9 rfl) rfl ?_
              refine OL.q (Y.lss rfl rfl) rfl ?_
              refine OL.nil ?_
              refine EX.seq ?_
              refine CW.cond rfl (fun h3 => ?_) (fun h3 => ?_)
              · have bh3 := h3
                repeat (first | replace h3 := yes h3 | replace h3 := no h3 | replace h3 := nyes h3 | replace h3 := nno h3)
                have hks : k < x.num.size := by omega
                refine CW.skip ?_
                refine EX.seq ?_
                refine CW.seq ?_
                refine CW.block ?_
                refine CW.seq ?_
                refine CW.region ?_
                refine OL.q (Y.field L30_3 rfl) rfl ?_
                refine OL.q (Y.load T9 rfl (Ent.at 0 rfl (Up.cellIs _ _ _) (blk_cell rfl))) rfl ?_
                refine OL.q (Y.move rfl) rfl ?_
                refine OL.q (indexStr0 (k := k) Tryd.underlying9 rfl rfl rfl hks) rfl ?_
                refine OL.q (Y.lss rfl rfl) rfl ?_
                refine OL.q (Y.move rfl) rfl ?_
                refine OL.guard (s := 78) rfl (fun g9_5 => ?_) (fun g9_5 => ?_)
                · have ng9_5 := g9_5
                  repeat (first | replace ng9_5 := yes ng9_5 | replace ng9_5 := no ng9_5 | replace ng9_5 := nyes ng9_5 | replace ng9_5 := nno ng9_5)
                  refine OL.no g9_5 rfl rfl rfl ?_
                  refine OL.no g9_5 rfl rfl rfl ?_
                  refine OL.no g9_5 rfl rfl rfl ?_
                  refine OL.no g9_5 rfl rfl rfl ?_
                  refine OL.no g9_5 rfl rfl rfl ?_
                  refine OL.q (Y.pickT rfl g9_5 rfl) rfl ?_
                  refine OL.nil ?_
                  refine EX.seq ?_
                  refine CW.condT rfl (rfl) ?_
                  refine CW.seq ?_
                  refine CW.region ?_
                  refine OL.q (Y.assign rfl) rfl ?_
                  refine OL.q (Y.assign rfl) rfl ?_
                  refine OL.nil ?_
                  refine EX.seq ?_
                  refine CW.ret ?_
                  refine EX.retB ?_
                  refine EX.retT ?_
                  refine EX.retT ?_
                  refine EX.retB ?_
                  refine EX.retT ?_
                  have hd : digB x.num k = false := by unfold digB; simp; omega
                  have he : headE S.funs.length x = 1 := headE_arg (.inr (.inr (.inr (.inr ⟨h1, numB_dig hks hd⟩))))
                  exact EX.fin2 [] rfl rfl rfl rfl ⟨by rw [wrongE_0 (by rw [he]; decide), he]; rfl, rfl⟩
                · have ng9_5 := g9_5
                  repeat (first | replace ng9_5 := yes ng9_5 | replace ng9_5 := no ng9_5 | replace ng9_5 := nyes ng9_5 | replace ng9_5 := nno ng9_5)
                  refine OL.on g9_5 rfl rfl ?_
                  refine OL.q (Y.field L30_3 rfl) rfl ?_
                  refine OL.on g9_5 rfl rfl ?_
                  refine OL.q (Y.load T9 rfl (Ent.at 0 rfl (Up.cellIs _ _ _) (blk_cell rfl))) rfl ?_
                  refine OL.on g9_5 rfl rfl ?_
                  refine OL.q (Y.move rfl) rfl ?_
                  refine OL.on g9_5 rfl rfl ?_
                  refine OL.q (indexStr0 (k := k) Tryd.underlying9 rfl rfl rfl hks) rfl ?_
                  refine OL.on g9_5 rfl rfl ?_
                  refine OL.q (Y.gtr rfl rfl) rfl ?_
                  refine OL.q (Y.pickF rfl g9_5 rfl) rfl ?_
                  refine OL.nil ?_
                  refine EX.seq ?_
                  refine CW.cond rfl (fun h4 => ?_) (fun h4 => ?_)
                  · have bh4 := h4
                    repeat (first | replace h4 := yes h4 | replace h4 := no h4 | replace h4 := nyes h4 | replace h4 := nno h4)
                    refine CW.seq ?_
                    refine CW.region ?_
                    refine OL.q (Y.assign rfl) rfl ?_
                    refine OL.q (Y.assign rfl) rfl ?_
                    refine OL.nil ?_
                    refine EX.seq ?_
                    refine CW.ret ?_
                    refine EX.retB ?_
                    refine EX.retT ?_
                    refine EX.retT ?_
                    refine EX.retB ?_
                    refine EX.retT ?_
                    have hd : digB x.num k = false := by unfold digB; simp; omega
                    have he : headE S.funs.length x = 1 := headE_arg (.inr (.inr (.inr (.inr ⟨h1, numB_dig hks hd⟩))))
                    exact EX.fin2 [] rfl rfl rfl rfl ⟨by rw [wrongE_0 (by rw [he]; decide), he]; rfl, rfl⟩
                  · have bh4 := h4
                    repeat (first | replace h4 := yes h4 | replace h4 := no h4 | replace h4 := nyes h4 | replace h4 := nno h4)
                    refine CW.skip ?_
                    refine EX.norB ?_
                    refine EX.seq ?_
                    refine CW.region ?_
                    refine OL.q (Y.move rfl) rfl ?_
                    refine OL.q (Y.add1 rfl rfl rfl (by omega)) rfl ?_
                    refine OL.q (Y.assign rfl) rfl ?_
                    refine OL.nil ?_
                    exact EX.next (k + 1) [0] (⟨by omega, fun j h => by
                      by_cases e : j = k
                      · subst e; unfold digB; simp; omega
                      · exact hj j (by omega)⟩) (by first | omega | (dsimp only; omega)) ⟨rfl, rfl, rfl, trivial⟩ rfl rfl
              · have bh3 := h3
                repeat (first | replace h3 := yes h3 | replace h3 := no h3 | replace h3 := nyes h3 | replace h3 := nno h3)
                have hkn : k = x.num.size := by omega
                subst hkn
                have hnb := numB_of hz5 hj
                refine CW.exit ?_
                refine EX.exitT ?_
                refine EX.exitT ?_
                refine EX.exitB ?_
                exact EX.meet () [0] (fun _ => hnb) ⟨rfl, rfl, trivial⟩ rfl rfl
        · have bh1 := h1
          repeat (first | replace h1 := yes h1 | replace h1 := no h1 | replace h1 := nyes h1 | replace h1 := nno h1)
          refine CW.skip ?_
          exact EX.meet () [0] (fun h => absurd h h1) ⟨rfl, rfl, trivial⟩ rfl rfl
      ·
        rintro z h4
        dsimp only
        refine CW.cut (α := Unit) ⟨(fun _ => x.op = 3 → bad v.fn x.fn = false), (fun _ => [(0, Value.pointer (some { block := r, off := 0 })), (3, Value.pointer (some { block := b3, off := 0 }))]), (fun _ => [blk b3 (termCells x) 30])⟩ ?_ ?_
        ·
          refine CW.seq ?_
          refine CW.drawn [(true, 0), (true, 1), (true, 2), (true, 3), (true, 4), (true, 5), (true, 6), (true, 7), (true, 8), (true, 9), (true, 10), (true, 11), (true, 12), (true, 13), (true, 14), (true, 15), (true, 16), (true, 17)] [] [0] mixed (by kernel_rfl) (by repeat (first | exact PanicOk.body | refine PanicOk.then ?_ | refine PanicOk.block ?_)) (by kernel_rfl) rfl rfl rfl rfl ?_
          refine OL.qt (Y.field L30_0 rfl) rfl ?_
          refine OL.qt (Y.load T3 rfl (Ent.at 0 rfl (Up.cellIs _ _ _) (blk_cell rfl))) rfl ?_
          refine OL.qt (Y.eql rfl rfl) rfl ?_
          refine OL.qt (Y.move rfl) rfl ?_
          refine OL.guard (s := 88) rfl (fun g11_3 => ?_) (fun g11_3 => ?_)
          · have ng11_3 := g11_3
            repeat (first | replace ng11_3 := yes ng11_3 | replace ng11_3 := no ng11_3 | replace ng11_3 := nyes ng11_3 | replace ng11_3 := nno ng11_3)
            refine OL.ont g11_3 rfl rfl ?_
            refine OL.qt (Y.field L30_1 rfl) rfl ?_
            refine OL.ont g11_3 rfl rfl ?_
            refine OL.qt (Y.load T3 rfl (Ent.at 0 rfl (Up.cellIs _ _ _) (blk_cell rfl))) rfl ?_
            refine OL.ont g11_3 rfl rfl ?_
            refine OL.qt (Y.lss rfl rfl) rfl ?_
            refine OL.ont g11_3 rfl rfl ?_
            refine OL.qt (Y.move rfl) rfl ?_
            refine OL.guard (s := 92) rfl (fun g11_7 => ?_) (fun g11_7 => ?_)
            · have ng11_7 := g11_7
              repeat (first | replace ng11_7 := yes ng11_7 | replace ng11_7 := no ng11_7 | replace ng11_7 := nyes ng11_7 | replace ng11_7 := nno ng11_7)
              refine OL.tno g11_7 rfl rfl rfl ?_
              refine OL.tno g11_7 rfl rfl rfl ?_
              refine OL.tno g11_7 rfl rfl rfl ?_
              refine OL.tno g11_7 rfl rfl rfl ?_
              refine OL.tno g11_7 rfl rfl rfl ?_
              refine OL.tno g11_7 rfl rfl rfl ?_
              refine OL.tno g11_7 rfl rfl rfl ?_
              refine OL.tno g11_7 rfl rfl rfl ?_
              refine OL.ont g11_3 rfl rfl ?_
              refine OL.qt (Y.pickT rfl g11_7 rfl) rfl ?_
              refine OL.qt (Y.pickT rfl g11_3 rfl) rfl ?_
              refine OL.nil ?_
              refine EX.tail ?_
              refine OL.nil ?_
              refine EX.seq ?_
              refine CW.condT rfl (rfl) ?_
              refine CW.seq ?_
              refine CW.region ?_
              refine OL.q (Y.assign rfl) rfl ?_
              refine OL.q (Y.assign rfl) rfl ?_
              refine OL.nil ?_
              refine EX.seq ?_
              refine CW.ret ?_
              refine EX.retT ?_
              have he : headE S.funs.length x = 2 := headE_range (by omega) (by omega) (noText hz1 h4) ⟨ng11_3, by rw [hS.fn]; unfold bad; simp; omega⟩
              exact EX.fin2 [] rfl rfl rfl rfl ⟨by rw [wrongE_0 (by rw [he]; decide), he]; rfl, rfl⟩
            · have ng11_7 := g11_7
              repeat (first | replace ng11_7 := yes ng11_7 | replace ng11_7 := no ng11_7 | replace ng11_7 := nyes ng11_7 | replace ng11_7 := nno ng11_7)
              refine OL.ont g11_7 rfl rfl ?_
              refine OL.qt (Y.field L30_1 rfl) rfl ?_
              refine OL.ont g11_7 rfl rfl ?_
              refine OL.qt (Y.load T3 rfl (Ent.at 0 rfl (Up.cellIs _ _ _) (blk_cell rfl))) rfl ?_
              refine OL.ont g11_7 rfl rfl ?_
              refine OL.qt (Y.move rfl) rfl ?_
              refine OL.ont g11_7 rfl rfl ?_
              refine OL.qt (Y.nilCheck rfl) rfl ?_
              refine OL.ont g11_7 rfl rfl ?_
              refine OL.qt (Y.field L62_1 rfl) rfl ?_
              refine OL.ont g11_7 rfl rfl ?_
              refine OL.qt (Y.load T55 rfl (Ent.via hF (Up.cellIs _ _ _) (Ent.at 0 rfl (Up.cellIs _ _ _) (blk_cell rfl)))) rfl ?_
              refine OL.ont g11_7 rfl rfl ?_
              refine OL.qt (Y.lenSl Tryd.underlying55 rfl) rfl ?_
              refine OL.ont g11_7 rfl rfl ?_
              refine OL.qt (Y.geq rfl rfl) rfl ?_
              refine OL.ont g11_3 rfl rfl ?_
              refine OL.qt (Y.pickF rfl g11_7 rfl) rfl ?_
              refine OL.qt (Y.pickT rfl g11_3 rfl) rfl ?_
              refine OL.nil ?_
              refine EX.tail ?_
              refine OL.nil ?_
              refine EX.seq ?_
              refine CW.cond rfl (fun h5 => ?_) (fun h5 => ?_)
              · have bh5 := h5
                repeat (first | replace h5 := yes h5 | replace h5 := no h5 | replace h5 := nyes h5 | replace h5 := nno h5)
                refine CW.seq ?_
                refine CW.region ?_
                refine OL.q (Y.assign rfl) rfl ?_
                refine OL.q (Y.assign rfl) rfl ?_
                refine OL.nil ?_
                refine EX.seq ?_
                refine CW.ret ?_
                refine EX.retT ?_
                have he : headE S.funs.length x = 2 := headE_range (by omega) (by omega) (noText hz1 h4) ⟨ng11_3, by rw [hS.fn]; unfold bad; simp; omega⟩
                exact EX.fin2 [] rfl rfl rfl rfl ⟨by rw [wrongE_0 (by rw [he]; decide), he]; rfl, rfl⟩
              · have bh5 := h5
                repeat (first | replace h5 := yes h5 | replace h5 := no h5 | replace h5 := nyes h5 | replace h5 := nno h5)
                refine CW.skip ?_
                exact EX.meet () [0] (fun _ => bad_false.2 ⟨by omega, by omega⟩) ⟨rfl, rfl, trivial⟩ rfl rfl
          · have ng11_3 := g11_3
            repeat (first | replace ng11_3 := yes ng11_3 | replace ng11_3 := no ng11_3 | replace ng11_3 := nyes ng11_3 | replace ng11_3 := nno ng11_3)
            refine OL.tno g11_3 rfl rfl rfl ?_
            refine OL.tno g11_3 rfl rfl rfl ?_
            refine OL.tno g11_3 rfl rfl rfl ?_
            refine OL.tno g11_3 rfl rfl rfl ?_
            refine OL.tdead rfl rfl rfl ?_
            refine OL.tdead rfl rfl rfl ?_
            refine OL.tdead rfl rfl rfl ?_
            refine OL.tdead rfl rfl rfl ?_
            refine OL.tdead rfl rfl rfl ?_
            refine OL.tdead rfl rfl rfl ?_
            refine OL.tdead rfl rfl rfl ?_
            refine OL.tdead rfl rfl rfl ?_
            refine OL.tno g11_3 rfl rfl rfl ?_
            refine OL.qt (Y.pickF rfl g11_3 rfl) rfl ?_
            refine OL.nil ?_
            refine EX.tail ?_
            refine OL.nil ?_
            refine EX.seq ?_
            refine CW.condF rfl (rfl) ?_
            refine CW.skip ?_
            exact EX.meet () [0] (fun _ => bad_false.2 ⟨by omega, by omega⟩) ⟨rfl, rfl, trivial⟩ rfl rfl
        ·
          rintro z h3f
          dsimp only
          refine CW.seq ?_
          have hh0 : errs S x 0 = 0 := headE_zero (by omega) (by omega) (noText hz1 h4) (fun q => by have q2 := q.2; rw [hS.fn, h3f q.1] at q2; cases q2)
          refine CW.region ?_
          refine OL.q (Y.field L30_2 rfl) rfl ?_
          refine OL.q (Y.load T28 rfl (Ent.at 0 rfl (Up.cellIs _ _ _) (blk_cell rfl))) rfl ?_
          refine OL.q (Y.lenSl Tryd.underlying28 rfl) rfl ?_
          refine OL.q (Y.assign rfl) rfl ?_
          refine OL.nil ?_
          refine EX.seq ?_
          refine CW.seq ?_
          refine CW.seq ?_
          refine CW.region ?_
          refine OL.q (Y.assign rfl) rfl ?_
          refine OL.nil ?_
          refine EX.seq ?_
          refine CW.block ?_
          refine CW.loop (α := Nat) ⟨(fun k => k ≤ x.n ∧ (x.kids.take k).any (bad v.tn) = false), (fun k => [(0, Value.pointer (some { block := r, off := 0 })), (3, Value.pointer (some { block := b3, off := 0 })), (7, Value.int IntKind.i64 ↑x.n), (8, .int .i64 k)]), (fun k => [blk b3 (termCells x) 30])⟩
            (fun k => (x.n - k : Nat)) 0 [0] ⟨Nat.zero_le _, rfl⟩ ⟨rfl, rfl, rfl, rfl, trivial⟩ rfl rfl ?_
          rintro k ⟨hk, hb⟩
          dsimp only at hk hb ⊢
          refine CW.seq ?_
          refine CW.seq ?_
          refine CW.region ?_
          refine OL.q (Y.move rfl) rfl ?_
          refine OL.q (Y.move rfl) rfl ?_
          refine OL.q (Y.lss rfl rfl) rfl ?_
          refine OL.nil ?_
          refine EX.seq ?_
          refine CW.cond rfl (fun h6 => ?_) (fun h6 => ?_)
          · have bh6 := h6
            repeat (first | replace h6 := yes h6 | replace h6 := no h6 | replace h6 := nyes h6 | replace h6 := nno h6)
            obtain ⟨z, hp⟩ : ∃ p, x.kids[k]? = some p := ⟨_, List.getElem?_eq_getElem (by omega)⟩
            refine CW.skip ?_
            refine EX.seq ?_
            refine CW.seq ?_
            refine CW.block ?_
            refine CW.seq ?_
            refine CW.drawn [(true, 0), (true, 1), (true, 2), (true, 3), (true, 4), (true, 5), (true, 6), (true, 7), (true, 8), (true, 9), (true, 10), (true, 11), (true, 12), (true, 13), (true, 14), (true, 15), (true, 16), (true, 17), (true, 18)] [] [0] mixed (by kernel_rfl) (by repeat (first | exact PanicOk.body | refine PanicOk.then ?_ | refine PanicOk.block ?_)) (by kernel_rfl) rfl rfl rfl rfl ?_
            refine OL.qt (Y.field L30_2 rfl) rfl ?_
            refine OL.qt (Y.load T28 rfl (Ent.at 0 rfl (Up.cellIs _ _ _) (blk_cell rfl))) rfl ?_
            refine OL.qt (Y.move rfl) rfl ?_
            refine OL.qt (Y.index Tryd.underlying28 C3 rfl rfl (Ent.frame (Up.rd _ _ _ _) (fun h hs => imm_ent (Up.rd _ _ _ _) (by assumption) h (hI h hs))) rfl (by omega)) rfl ?_
            refine OL.qt (Y.load T3 rfl (cellsIs_at0 (rd_at (Ent.frame (Up.rd _ _ _ _) (fun h hs => imm_ent (Up.rd _ _ _ _) (by assumption) h (hI h hs))) (mget _ (by assumption))) rfl)) rfl ?_
            refine OL.qt (Y.lss rfl rfl) rfl ?_
            refine OL.qt (Y.move rfl) rfl ?_
            refine OL.guard (s := 117) rfl (fun g17_6 => ?_) (fun g17_6 => ?_)
            · have ng17_6 := g17_6
              repeat (first | replace ng17_6 := yes ng17_6 | replace ng17_6 := no ng17_6 | replace ng17_6 := nyes ng17_6 | replace ng17_6 := nno ng17_6)
              refine OL.tno g17_6 rfl rfl rfl ?_
              refine OL.tno g17_6 rfl rfl rfl ?_
              refine OL.tno g17_6 rfl rfl rfl ?_
              refine OL.tno g17_6 rfl rfl rfl ?_
              refine OL.tno g17_6 rfl rfl rfl ?_
              refine OL.tno g17_6 rfl rfl rfl ?_
              refine OL.tno g17_6 rfl rfl rfl ?_
              refine OL.tno g17_6 rfl rfl rfl ?_
              refine OL.tno g17_6 rfl rfl rfl ?_
              refine OL.tno g17_6 rfl rfl rfl ?_
              refine OL.tno g17_6 rfl rfl rfl ?_
              refine OL.qt (Y.pickT rfl g17_6 rfl) rfl ?_
              refine OL.nil ?_
              refine EX.tail ?_
              refine OL.nil ?_
              refine EX.seq ?_
              refine CW.condT rfl (rfl) ?_
              refine CW.seq ?_
              refine CW.region ?_
              refine OL.q (Y.assign rfl) rfl ?_
              refine OL.q (Y.assign rfl) rfl ?_
              refine OL.nil ?_
              refine EX.seq ?_
              refine CW.ret ?_
              refine EX.retB ?_
              refine EX.retT ?_
              refine EX.retT ?_
              refine EX.retB ?_
              refine EX.retT ?_
              have hb2 : x.kids.any (bad S.terms.length) = true := any_mem (mem_of hp) (by rw [hS.tn]; unfold bad; simp; omega)
              have he : errs S x 1 = 2 := by show kidsE S x = 2; unfold kidsE; rw [hb2]; rfl
              exact EX.fin2 [] rfl rfl rfl rfl ⟨by rw [wrongE_at (k := 1) (by decide) (errs1 hh0) (by rw [he]; decide), he]; rfl, rfl⟩
            · have ng17_6 := g17_6
              repeat (first | replace ng17_6 := yes ng17_6 | replace ng17_6 := no ng17_6 | replace ng17_6 := nyes ng17_6 | replace ng17_6 := nno ng17_6)
              refine OL.ont g17_6 rfl rfl ?_
              refine OL.qt (Y.field L30_2 rfl) rfl ?_
              refine OL.ont g17_6 rfl rfl ?_
              refine OL.qt (Y.load T28 rfl (Ent.at 0 rfl (Up.cellIs _ _ _) (blk_cell rfl))) rfl ?_
              refine OL.ont g17_6 rfl rfl ?_
              refine OL.qt (Y.move rfl) rfl ?_
              refine OL.ont g17_6 rfl rfl ?_
              refine OL.qt (Y.index Tryd.underlying28 C3 rfl rfl (Ent.frame (Up.rd _ _ _ _) (fun h hs => imm_ent (Up.rd _ _ _ _) (by assumption) h (hI h hs))) rfl (by omega)) rfl ?_
              refine OL.ont g17_6 rfl rfl ?_
              refine OL.qt (Y.load T3 rfl (cellsIs_at0 (rd_at (Ent.frame (Up.rd _ _ _ _) (fun h hs => imm_ent (Up.rd _ _ _ _) (by assumption) h (hI h hs))) (mget _ (by assumption))) rfl)) rfl ?_
              refine OL.ont g17_6 rfl rfl ?_
              refine OL.qt (Y.move rfl) rfl ?_
              refine OL.ont g17_6 rfl rfl ?_
              refine OL.qt (Y.nilCheck rfl) rfl ?_
              refine OL.ont g17_6 rfl rfl ?_
              refine OL.qt (Y.field L62_2 rfl) rfl ?_
              refine OL.ont g17_6 rfl rfl ?_
              refine OL.qt (Y.load T60 rfl (Ent.via hF (Up.cellIs _ _ _) (Ent.at 0 rfl (Up.cellIs _ _ _) (blk_cell rfl)))) rfl ?_
              refine OL.ont g17_6 rfl rfl ?_
              refine OL.qt (Y.lenSl Tryd.underlying60 rfl) rfl ?_
              refine OL.ont g17_6 rfl rfl ?_
              refine OL.qt (Y.geq rfl rfl) rfl ?_
              refine OL.qt (Y.pickF rfl g17_6 rfl) rfl ?_
              refine OL.nil ?_
              refine EX.tail ?_
              refine OL.nil ?_
              refine EX.seq ?_
              refine CW.cond rfl (fun h7 => ?_) (fun h7 => ?_)
              · have bh7 := h7
                repeat (first | replace h7 := yes h7 | replace h7 := no h7 | replace h7 := nyes h7 | replace h7 := nno h7)
                refine CW.seq ?_
                refine CW.region ?_
                refine OL.q (Y.assign rfl) rfl ?_
                refine OL.q (Y.assign rfl) rfl ?_
                refine OL.nil ?_
                refine EX.seq ?_
                refine CW.ret ?_
                refine EX.retB ?_
                refine EX.retT ?_
                refine EX.retT ?_
                refine EX.retB ?_
                refine EX.retT ?_
                have hb2 : x.kids.any (bad S.terms.length) = true := any_mem (mem_of hp) (by rw [hS.tn]; unfold bad; simp; omega)
                have he : errs S x 1 = 2 := by show kidsE S x = 2; unfold kidsE; rw [hb2]; rfl
                exact EX.fin2 [] rfl rfl rfl rfl ⟨by rw [wrongE_at (k := 1) (by decide) (errs1 hh0) (by rw [he]; decide), he]; rfl, rfl⟩
              · have bh7 := h7
                repeat (first | replace h7 := yes h7 | replace h7 := no h7 | replace h7 := nyes h7 | replace h7 := nno h7)
                refine CW.skip ?_
                refine EX.norB ?_
                refine EX.seq ?_
                refine CW.region ?_
                refine OL.q (Y.move rfl) rfl ?_
                refine OL.q (Y.add1 rfl rfl rfl (by omega)) rfl ?_
                refine OL.q (Y.assign rfl) rfl ?_
                refine OL.nil ?_
                exact EX.next (k + 1) [0] (⟨by omega, by rw [any_take hp, hb, bad_false.2 ⟨by omega, by omega⟩]; rfl⟩) (by first | omega | (dsimp only; omega)) ⟨rfl, rfl, rfl, rfl, trivial⟩ rfl rfl
          · have bh6 := h6
            repeat (first | replace h6 := yes h6 | replace h6 := no h6 | replace h6 := nyes h6 | replace h6 := nno h6)
            have hkn : k = x.n := by omega
            subst hkn
            rw [List.take_of_length_le (by omega)] at hb
            have hh1 : errs S x 1 = 0 := by show kidsE S x = 0; unfold kidsE; rw [hS.tn, hb]; rfl
            refine CW.exit ?_
            refine EX.exitT ?_
            refine EX.exitT ?_
            refine EX.exitB ?_
            refine EX.seq ?_
            refine CW.seq ?_
            refine CW.seq ?_
            refine CW.region ?_
            refine OL.cutAt (α := Bool) 17 ⟨(fun za => za = decide ((x.op = 1 ∨ x.op = 2 ∨ x.op = 4) ∧ 0 < x.n)), (fun za => [(0, Value.pointer (some { block := r, off := 0 })), (3, Value.pointer (some { block := b3, off := 0 })), (7, Value.int IntKind.i64 ↑x.n), (146, .bool za)]), (fun za => [blk b3 (termCells x) 30])⟩ ?_ ?_
            ·
              refine OL.q (Y.field L30_0 rfl) rfl ?_
              refine OL.q (Y.load T3 rfl (Ent.at 0 rfl (Up.cellIs _ _ _) (blk_cell rfl))) rfl ?_
              refine OL.q (Y.eql rfl rfl) rfl ?_
              refine OL.q (Y.move rfl) rfl ?_
              refine OL.guard (s := 133) rfl (fun g19_3 => ?_) (fun g19_3 => ?_)
              · have ng19_3 := g19_3
                repeat (first | replace ng19_3 := yes ng19_3 | replace ng19_3 := no ng19_3 | replace ng19_3 := nyes ng19_3 | replace ng19_3 := nno ng19_3)
                refine OL.no g19_3 rfl rfl rfl ?_
                refine OL.no g19_3 rfl rfl rfl ?_
                refine OL.no g19_3 rfl rfl rfl ?_
                refine OL.q (Y.pickT rfl g19_3 rfl) rfl ?_
                refine OL.q (Y.move rfl) rfl ?_
                have g19_8 : true = true := rfl
                refine OL.no g19_8 rfl rfl rfl ?_
                refine OL.no g19_8 rfl rfl rfl ?_
                refine OL.no g19_8 rfl rfl rfl ?_
                refine OL.q (Y.pickT rfl g19_8 rfl) rfl ?_
                refine OL.q (Y.move rfl) rfl ?_
                have g19_13 : true = true := rfl
                refine OL.on g19_13 rfl rfl ?_
                refine OL.q (Y.move rfl) rfl ?_
                refine OL.on g19_13 rfl rfl ?_
                refine OL.q (Y.gtr rfl rfl) rfl ?_
                refine OL.q (Y.pickT rfl g19_13 rfl) rfl ?_
                refine OL.nil ?_
                exact EX.meet _ [0] (by dsimp only; first | exact (decide_eq_true (by omega)).symm | exact (decide_eq_false (by omega)).symm | exact decide_eq_decide.2 (by omega) | (simp [*]; done) | (rw [Bool.eq_iff_iff]; simp [*]; done) | (rw [Bool.eq_iff_iff]; simp; omega) | (rw [Bool.eq_iff_iff]; simp [*]; omega)) ⟨rfl, rfl, rfl, rfl, trivial⟩ rfl rfl
              · have ng19_3 := g19_3
                repeat (first | replace ng19_3 := yes ng19_3 | replace ng19_3 := no ng19_3 | replace ng19_3 := nyes ng19_3 | replace ng19_3 := nno ng19_3)
                refine OL.on g19_3 rfl rfl ?_
                refine OL.q (Y.field L30_0 rfl) rfl ?_
                refine OL.on g19_3 rfl rfl ?_
                refine OL.q (Y.load T3 rfl (Ent.at 0 rfl (Up.cellIs _ _ _) (blk_cell rfl))) rfl ?_
                refine OL.on g19_3 rfl rfl ?_
                refine OL.q (Y.eql rfl rfl) rfl ?_
                refine OL.q (Y.pickF rfl g19_3 rfl) rfl ?_
                refine OL.q (Y.move rfl) rfl ?_
                refine OL.guard (s := 138) rfl (fun g19_8 => ?_) (fun g19_8 => ?_)
                · have ng19_8 := g19_8
                  repeat (first | replace ng19_8 := yes ng19_8 | replace ng19_8 := no ng19_8 | replace ng19_8 := nyes ng19_8 | replace ng19_8 := nno ng19_8)
                  refine OL.no g19_8 rfl rfl rfl ?_
                  refine OL.no g19_8 rfl rfl rfl ?_
                  refine OL.no g19_8 rfl rfl rfl ?_
                  refine OL.q (Y.pickT rfl g19_8 rfl) rfl ?_
                  refine OL.q (Y.move rfl) rfl ?_
                  have g19_13 : true = true := rfl
                  refine OL.on g19_13 rfl rfl ?_
                  refine OL.q (Y.move rfl) rfl ?_
                  refine OL.on g19_13 rfl rfl ?_
                  refine OL.q (Y.gtr rfl rfl) rfl ?_
                  refine OL.q (Y.pickT rfl g19_13 rfl) rfl ?_
                  refine OL.nil ?_
                  exact EX.meet _ [0] (by dsimp only; first | exact (decide_eq_true (by omega)).symm | exact (decide_eq_false (by omega)).symm | exact decide_eq_decide.2 (by omega) | (simp [*]; done) | (rw [Bool.eq_iff_iff]; simp [*]; done) | (rw [Bool.eq_iff_iff]; simp; omega) | (rw [Bool.eq_iff_iff]; simp [*]; omega)) ⟨rfl, rfl, rfl, rfl, trivial⟩ rfl rfl
                · have ng19_8 := g19_8
                  repeat (first | replace ng19_8 := yes ng19_8 | replace ng19_8 := no ng19_8 | replace ng19_8 := nyes ng19_8 | replace ng19_8 := nno ng19_8)
                  refine OL.on g19_8 rfl rfl ?_
                  refine OL.q (Y.field L30_0 rfl) rfl ?_
                  refine OL.on g19_8 rfl rfl ?_
                  refine OL.q (Y.load T3 rfl (Ent.at 0 rfl (Up.cellIs _ _ _) (blk_cell rfl))) rfl ?_
                  refine OL.on g19_8 rfl rfl ?_
                  refine OL.q (Y.eql rfl rfl) rfl ?_
                  refine OL.q (Y.pickF rfl g19_8 rfl) rfl ?_
                  refine OL.q (Y.move rfl) rfl ?_
                  refine OL.guard (s := 143) rfl (fun g19_13 => ?_) (fun g19_13 => ?_)
                  · have ng19_13 := g19_13
                    repeat (first | replace ng19_13 := yes ng19_13 | replace ng19_13 := no ng19_13 | replace ng19_13 := nyes ng19_13 | replace ng19_13 := nno ng19_13)
                    refine OL.on g19_13 rfl rfl ?_
                    refine OL.q (Y.move rfl) rfl ?_
                    refine OL.on g19_13 rfl rfl ?_
                    refine OL.q (Y.gtr rfl rfl) rfl ?_
                    refine OL.q (Y.pickT rfl g19_13 rfl) rfl ?_
                    refine OL.nil ?_
                    exact EX.meet _ [0] (by dsimp only; first | exact (decide_eq_true (by omega)).symm | exact (decide_eq_false (by omega)).symm | exact decide_eq_decide.2 (by omega) | (simp [*]; done) | (rw [Bool.eq_iff_iff]; simp [*]; done) | (rw [Bool.eq_iff_iff]; simp; omega) | (rw [Bool.eq_iff_iff]; simp [*]; omega)) ⟨rfl, rfl, rfl, rfl, trivial⟩ rfl rfl
                  · have ng19_13 := g19_13
                    repeat (first | replace ng19_13 := yes ng19_13 | replace ng19_13 := no ng19_13 | replace ng19_13 := nyes ng19_13 | replace ng19_13 := nno ng19_13)
                    refine OL.no g19_13 rfl rfl rfl ?_
                    refine OL.no g19_13 rfl rfl rfl ?_
                    refine OL.q (Y.pickF rfl g19_13 rfl) rfl ?_
                    refine OL.nil ?_
                    exact EX.meet _ [0] (by dsimp only; first | exact (decide_eq_true (by omega)).symm | exact (decide_eq_false (by omega)).symm | exact decide_eq_decide.2 (by omega) | (simp [*]; done) | (rw [Bool.eq_iff_iff]; simp [*]; done) | (rw [Bool.eq_iff_iff]; simp; omega) | (rw [Bool.eq_iff_iff]; simp [*]; omega)) ⟨rfl, rfl, rfl, rfl, trivial⟩ rfl rfl
            ·
              rintro za hza
              dsimp only at hza ⊢
              refine OL.cutAt (α := Bool) 9 ⟨(fun zb => zb = (za || decide (x.op = 5 ∧ x.n ≠ 1))), (fun zb => [(0, Value.pointer (some { block := r, off := 0 })), (3, Value.pointer (some { block := b3, off := 0 })), (7, Value.int IntKind.i64 ↑x.n), (155, .bool zb)]), (fun zb => [blk b3 (termCells x) 30])⟩ ?_ ?_
              ·
                refine OL.q (Y.move rfl) rfl ?_
                refine OL.guard (s := 147) rfl (fun g19_17 => ?_) (fun g19_17 => ?_)
                · have ng19_17 := g19_17
                  repeat (first | replace ng19_17 := yes ng19_17 | replace ng19_17 := no ng19_17 | replace ng19_17 := nyes ng19_17 | replace ng19_17 := nno ng19_17)
                  refine OL.no g19_17 rfl rfl rfl ?_
                  refine OL.no g19_17 rfl rfl rfl ?_
                  refine OL.no g19_17 rfl rfl rfl ?_
                  refine OL.no g19_17 rfl rfl rfl ?_
                  refine OL.dead rfl rfl rfl ?_
                  refine OL.dead rfl rfl rfl ?_
                  refine OL.no g19_17 rfl rfl rfl ?_
                  refine OL.q (Y.pickT rfl g19_17 rfl) rfl ?_
                  refine OL.nil ?_
                  exact EX.meet _ [0] (by dsimp only; first | (rw [ng19_17, Bool.true_or]) | (rw [ng19_17, Bool.false_or]; first | exact (decide_eq_true (by omega)).symm | exact (decide_eq_false (by omega)).symm | exact decide_eq_decide.2 (by omega))) ⟨rfl, rfl, rfl, rfl, trivial⟩ rfl rfl
                · have ng19_17 := g19_17
                  repeat (first | replace ng19_17 := yes ng19_17 | replace ng19_17 := no ng19_17 | replace ng19_17 := nyes ng19_17 | replace ng19_17 := nno ng19_17)
                  refine OL.on g19_17 rfl rfl ?_
                  refine OL.q (Y.field L30_0 rfl) rfl ?_
                  refine OL.on g19_17 rfl rfl ?_
                  refine OL.q (Y.load T3 rfl (Ent.at 0 rfl (Up.cellIs _ _ _) (blk_cell rfl))) rfl ?_
                  refine OL.on g19_17 rfl rfl ?_
                  refine OL.q (Y.eql rfl rfl) rfl ?_
                  refine OL.on g19_17 rfl rfl ?_
                  refine OL.q (Y.move rfl) rfl ?_
                  refine OL.guard (s := 151) rfl (fun g19_21 => ?_) (fun g19_21 => ?_)
                  · have ng19_21 := g19_21
                    repeat (first | replace ng19_21 := yes ng19_21 | replace ng19_21 := no ng19_21 | replace ng19_21 := nyes ng19_21 | replace ng19_21 := nno ng19_21)
                    refine OL.on g19_21 rfl rfl ?_
                    refine OL.q (Y.move rfl) rfl ?_
                    refine OL.on g19_21 rfl rfl ?_
                    refine OL.q (Y.neq rfl rfl) rfl ?_
                    refine OL.on g19_17 rfl rfl ?_
                    refine OL.q (Y.pickT rfl g19_21 rfl) rfl ?_
                    refine OL.q (Y.pickF rfl g19_17 rfl) rfl ?_
                    refine OL.nil ?_
                    exact EX.meet _ [0] (by dsimp only; first | (rw [ng19_17, Bool.true_or]) | (rw [ng19_17, Bool.false_or]; first | exact (decide_eq_true (by omega)).symm | exact (decide_eq_false (by omega)).symm | exact decide_eq_decide.2 (by omega))) ⟨rfl, rfl, rfl, rfl, trivial⟩ rfl rfl
                  · have ng19_21 := g19_21
                    repeat (first | replace ng19_21 := yes ng19_21 | replace ng19_21 := no ng19_21 | replace ng19_21 := nyes ng19_21 | replace ng19_21 := nno ng19_21)
                    refine OL.no g19_21 rfl rfl rfl ?_
                    refine OL.no g19_21 rfl rfl rfl ?_
                    refine OL.on g19_17 rfl rfl ?_
                    refine OL.q (Y.pickF rfl g19_21 rfl) rfl ?_
                    refine OL.q (Y.pickF rfl g19_17 rfl) rfl ?_
                    refine OL.nil ?_
                    exact EX.meet _ [0] (by dsimp only; first | (rw [ng19_17, Bool.true_or]) | (rw [ng19_17, Bool.false_or]; first | exact (decide_eq_true (by omega)).symm | exact (decide_eq_false (by omega)).symm | exact decide_eq_decide.2 (by omega))) ⟨rfl, rfl, rfl, rfl, trivial⟩ rfl rfl
              ·
                rintro zb hzb
                dsimp only at hzb ⊢
                refine OL.cutAt (α := Bool) 9 ⟨(fun zc => zc = (zb || decide (x.op = 10 ∧ x.n ≠ 3))), (fun zc => [(0, Value.pointer (some { block := r, off := 0 })), (3, Value.pointer (some { block := b3, off := 0 })), (7, Value.int IntKind.i64 ↑x.n), (164, .bool zc)]), (fun zc => [blk b3 (termCells x) 30])⟩ ?_ ?_
                ·
                  refine OL.q (Y.move rfl) rfl ?_
                  refine OL.guard (s := 156) rfl (fun g19_26 => ?_) (fun g19_26 => ?_)
                  · have ng19_26 := g19_26
                    repeat (first | replace ng19_26 := yes ng19_26 | replace ng19_26 := no ng19_26 | replace ng19_26 := nyes ng19_26 | replace ng19_26 := nno ng19_26)
                    refine OL.no g19_26 rfl rfl rfl ?_
                    refine OL.no g19_26 rfl rfl rfl ?_
                    refine OL.no g19_26 rfl rfl rfl ?_
                    refine OL.no g19_26 rfl rfl rfl ?_
                    refine OL.dead rfl rfl rfl ?_
                    refine OL.dead rfl rfl rfl ?_
                    refine OL.no g19_26 rfl rfl rfl ?_
                    refine OL.q (Y.pickT rfl g19_26 rfl) rfl ?_
                    refine OL.nil ?_
                    exact EX.meet _ [0] (by dsimp only; first | (rw [ng19_26, Bool.true_or]) | (rw [ng19_26, Bool.false_or]; first | exact (decide_eq_true (by omega)).symm | exact (decide_eq_false (by omega)).symm | exact decide_eq_decide.2 (by omega))) ⟨rfl, rfl, rfl, rfl, trivial⟩ rfl rfl
                  · have ng19_26 := g19_26
                    repeat (first | replace ng19_26 := yes ng19_26 | replace ng19_26 := no ng19_26 | replace ng19_26 := nyes ng19_26 | replace ng19_26 := nno ng19_26)
                    refine OL.on g19_26 rfl rfl ?_
                    refine OL.q (Y.field L30_0 rfl) rfl ?_
                    refine OL.on g19_26 rfl rfl ?_
                    refine OL.q (Y.load T3 rfl (Ent.at 0 rfl (Up.cellIs _ _ _) (blk_cell rfl))) rfl ?_
                    refine OL.on g19_26 rfl rfl ?_
                    refine OL.q (Y.eql rfl rfl) rfl ?_
                    refine OL.on g19_26 rfl rfl ?_
                    refine OL.q (Y.move rfl) rfl ?_
                    refine OL.guard (s := 160) rfl (fun g19_30 => ?_) (fun g19_30 => ?_)
                    · have ng19_30 := g19_30
                      repeat (first | replace ng19_30 := yes ng19_30 | replace ng19_30 := no ng19_30 | replace ng19_30 := nyes ng19_30 | replace ng19_30 := nno ng19_30)
                      refine OL.on g19_30 rfl rfl ?_
                      refine OL.q (Y.move rfl) rfl ?_
                      refine OL.on g19_30 rfl rfl ?_
                      refine OL.q (Y.neq rfl rfl) rfl ?_
                      refine OL.on g19_26 rfl rfl ?_
                      refine OL.q (Y.pickT rfl g19_30 rfl) rfl ?_
                      refine OL.q (Y.pickF rfl g19_26 rfl) rfl ?_
                      refine OL.nil ?_
                      exact EX.meet _ [0] (by dsimp only; first | (rw [ng19_26, Bool.true_or]) | (rw [ng19_26, Bool.false_or]; first | exact (decide_eq_true (by omega)).symm | exact (decide_eq_false (by omega)).symm | exact decide_eq_decide.2 (by omega))) ⟨rfl, rfl, rfl, rfl, trivial⟩ rfl rfl
                    · have ng19_30 := g19_30
                      repeat (first | replace ng19_30 := yes ng19_30 | replace ng19_30 := no ng19_30 | replace ng19_30 := nyes ng19_30 | replace ng19_30 := nno ng19_30)
                      refine OL.no g19_30 rfl rfl rfl ?_
                      refine OL.no g19_30 rfl rfl rfl ?_
                      refine OL.on g19_26 rfl rfl ?_
                      refine OL.q (Y.pickF rfl g19_30 rfl) rfl ?_
                      refine OL.q (Y.pickF rfl g19_26 rfl) rfl ?_
                      refine OL.nil ?_
                      exact EX.meet _ [0] (by dsimp only; first | (rw [ng19_26, Bool.true_or]) | (rw [ng19_26, Bool.false_or]; first | exact (decide_eq_true (by omega)).symm | exact (decide_eq_false (by omega)).symm | exact decide_eq_decide.2 (by omega))) ⟨rfl, rfl, rfl, rfl, trivial⟩ rfl rfl
                ·
                  rintro zc hzc
                  dsimp only at hzc ⊢
                  refine OL.cutAt (α := Bool) 9 ⟨(fun zd => zd = (zc || decide (x.op = 18 ∧ x.n < 1))), (fun zd => [(0, Value.pointer (some { block := r, off := 0 })), (3, Value.pointer (some { block := b3, off := 0 })), (7, Value.int IntKind.i64 ↑x.n), (173, .bool zd)]), (fun zd => [blk b3 (termCells x) 30])⟩ ?_ ?_
                  ·
                    refine OL.q (Y.move rfl) rfl ?_
                    refine OL.guard (s := 165) rfl (fun g19_35 => ?_) (fun g19_35 => ?_)
                    · have ng19_35 := g19_35
                      repeat (first | replace ng19_35 := yes ng19_35 | replace ng19_35 := no ng19_35 | replace ng19_35 := nyes ng19_35 | replace ng19_35 := nno ng19_35)
                      refine OL.no g19_35 rfl rfl rfl ?_
                      refine OL.no g19_35 rfl rfl rfl ?_
                      refine OL.no g19_35 rfl rfl rfl ?_
                      refine OL.no g19_35 rfl rfl rfl ?_
                      refine OL.dead rfl rfl rfl ?_
                      refine OL.dead rfl rfl rfl ?_
                      refine OL.no g19_35 rfl rfl rfl ?_
                      refine OL.q (Y.pickT rfl g19_35 rfl) rfl ?_
                      refine OL.nil ?_
                      exact EX.meet _ [0] (by dsimp only; first | (rw [ng19_35, Bool.true_or]) | (rw [ng19_35, Bool.false_or]; first | exact (decide_eq_true (by omega)).symm | exact (decide_eq_false (by omega)).symm | exact decide_eq_decide.2 (by omega))) ⟨rfl, rfl, rfl, rfl, trivial⟩ rfl rfl
                    · have ng19_35 := g19_35
                      repeat (first | replace ng19_35 := yes ng19_35 | replace ng19_35 := no ng19_35 | replace ng19_35 := nyes ng19_35 | replace ng19_35 := nno ng19_35)
                      refine OL.on g19_35 rfl rfl ?_
                      refine OL.q (Y.field L30_0 rfl) rfl ?_
                      refine OL.on g19_35 rfl rfl ?_
                      refine OL.q (Y.load T3 rfl (Ent.at 0 rfl (Up.cellIs _ _ _) (blk_cell rfl))) rfl ?_
                      refine OL.on g19_35 rfl rfl ?_
                      refine OL.q (Y.eql rfl rfl) rfl ?_
                      refine OL.on g19_35 rfl rfl ?_
                      refine OL.q (Y.move rfl) rfl ?_
                      refine OL.guard (s := 169) rfl (fun g19_39 => ?_) (fun g19_39 => ?_)
                      · have ng19_39 := g19_39
                        repeat (first | replace ng19_39 := yes ng19_39 | replace ng19_39 := no ng19_39 | replace ng19_39 := nyes ng19_39 | replace ng19_39 := nno ng19_39)
                        refine OL.on g19_39 rfl rfl ?_
                        refine OL.q (Y.move rfl) rfl ?_
                        refine OL.on g19_39 rfl rfl ?_
                        refine OL.q (Y.lss rfl rfl) rfl ?_
                        refine OL.on g19_35 rfl rfl ?_
                        refine OL.q (Y.pickT rfl g19_39 rfl) rfl ?_
                        refine OL.q (Y.pickF rfl g19_35 rfl) rfl ?_
                        refine OL.nil ?_
                        exact EX.meet _ [0] (by dsimp only; first | (rw [ng19_35, Bool.true_or]) | (rw [ng19_35, Bool.false_or]; first | exact (decide_eq_true (by omega)).symm | exact (decide_eq_false (by omega)).symm | exact decide_eq_decide.2 (by omega))) ⟨rfl, rfl, rfl, rfl, trivial⟩ rfl rfl
                      · have ng19_39 := g19_39
                        repeat (first | replace ng19_39 := yes ng19_39 | replace ng19_39 := no ng19_39 | replace ng19_39 := nyes ng19_39 | replace ng19_39 := nno ng19_39)
                        refine OL.no g19_39 rfl rfl rfl ?_
                        refine OL.no g19_39 rfl rfl rfl ?_
                        refine OL.on g19_35 rfl rfl ?_
                        refine OL.q (Y.pickF rfl g19_39 rfl) rfl ?_
                        refine OL.q (Y.pickF rfl g19_35 rfl) rfl ?_
                        refine OL.nil ?_
                        exact EX.meet _ [0] (by dsimp only; first | (rw [ng19_35, Bool.true_or]) | (rw [ng19_35, Bool.false_or]; first | exact (decide_eq_true (by omega)).symm | exact (decide_eq_false (by omega)).symm | exact decide_eq_decide.2 (by omega))) ⟨rfl, rfl, rfl, rfl, trivial⟩ rfl rfl
                  ·
                    rintro zd hzd
                    dsimp only at hzd ⊢
                    refine OL.cutAt (α := Bool) 19 ⟨(fun ze => ze = (zd || decide (6 ≤ x.op ∧ x.op ≠ 10 ∧ x.op ≠ 18 ∧ x.n < 2))), (fun ze => [(0, Value.pointer (some { block := r, off := 0 })), (3, Value.pointer (some { block := b3, off := 0 })), (7, Value.int IntKind.i64 ↑x.n), (192, .bool ze)]), (fun ze => [blk b3 (termCells x) 30])⟩ ?_ ?_
                    ·
                      refine OL.q (Y.move rfl) rfl ?_
                      refine OL.guard (s := 174) rfl (fun g19_44 => ?_) (fun g19_44 => ?_)
                      · have ng19_44 := g19_44
                        repeat (first | replace ng19_44 := yes ng19_44 | replace ng19_44 := no ng19_44 | replace ng19_44 := nyes ng19_44 | replace ng19_44 := nno ng19_44)
                        refine OL.no g19_44 rfl rfl rfl ?_
                        refine OL.no g19_44 rfl rfl rfl ?_
                        refine OL.no g19_44 rfl rfl rfl ?_
                        refine OL.no g19_44 rfl rfl rfl ?_
                        refine OL.dead rfl rfl rfl ?_
                        refine OL.dead rfl rfl rfl ?_
                        refine OL.dead rfl rfl rfl ?_
                        refine OL.no g19_44 rfl rfl rfl ?_
                        refine OL.no g19_44 rfl rfl rfl ?_
                        refine OL.dead rfl rfl rfl ?_
                        refine OL.dead rfl rfl rfl ?_
                        refine OL.dead rfl rfl rfl ?_
                        refine OL.no g19_44 rfl rfl rfl ?_
                        refine OL.no g19_44 rfl rfl rfl ?_
                        refine OL.dead rfl rfl rfl ?_
                        refine OL.dead rfl rfl rfl ?_
                        refine OL.no g19_44 rfl rfl rfl ?_
                        refine OL.q (Y.pickT rfl g19_44 rfl) rfl ?_
                        refine OL.nil ?_
                        exact EX.meet _ [0] (by dsimp only; first | (rw [ng19_44, Bool.true_or]) | (rw [ng19_44, Bool.false_or]; first | exact (decide_eq_true (by omega)).symm | exact (decide_eq_false (by omega)).symm | exact decide_eq_decide.2 (by omega))) ⟨rfl, rfl, rfl, rfl, trivial⟩ rfl rfl
                      · have ng19_44 := g19_44
                        repeat (first | replace ng19_44 := yes ng19_44 | replace ng19_44 := no ng19_44 | replace ng19_44 := nyes ng19_44 | replace ng19_44 := nno ng19_44)
                        refine OL.on g19_44 rfl rfl ?_
                        refine OL.q (Y.field L30_0 rfl) rfl ?_
                        refine OL.on g19_44 rfl rfl ?_
                        refine OL.q (Y.load T3 rfl (Ent.at 0 rfl (Up.cellIs _ _ _) (blk_cell rfl))) rfl ?_
                        refine OL.on g19_44 rfl rfl ?_
                        refine OL.q (Y.geq rfl rfl) rfl ?_
                        refine OL.on g19_44 rfl rfl ?_
                        refine OL.q (Y.move rfl) rfl ?_
                        refine OL.guard (s := 178) rfl (fun g19_48 => ?_) (fun g19_48 => ?_)
                        · have ng19_48 := g19_48
                          repeat (first | replace ng19_48 := yes ng19_48 | replace ng19_48 := no ng19_48 | replace ng19_48 := nyes ng19_48 | replace ng19_48 := nno ng19_48)
                          refine OL.on g19_48 rfl rfl ?_
                          refine OL.q (Y.field L30_0 rfl) rfl ?_
                          refine OL.on g19_48 rfl rfl ?_
                          refine OL.q (Y.load T3 rfl (Ent.at 0 rfl (Up.cellIs _ _ _) (blk_cell rfl))) rfl ?_
                          refine OL.on g19_48 rfl rfl ?_
                          refine OL.q (Y.neq rfl rfl) rfl ?_
                          refine OL.on g19_44 rfl rfl ?_
                          refine OL.q (Y.pickT rfl g19_48 rfl) rfl ?_
                          refine OL.on g19_44 rfl rfl ?_
                          refine OL.q (Y.move rfl) rfl ?_
                          refine OL.guard (s := 183) rfl (fun g19_53 => ?_) (fun g19_53 => ?_)
                          · have ng19_53 := g19_53
                            repeat (first | replace ng19_53 := yes ng19_53 | replace ng19_53 := no ng19_53 | replace ng19_53 := nyes ng19_53 | replace ng19_53 := nno ng19_53)
                            refine OL.on g19_53 rfl rfl ?_
                            refine OL.q (Y.field L30_0 rfl) rfl ?_
                            refine OL.on g19_53 rfl rfl ?_
                            refine OL.q (Y.load T3 rfl (Ent.at 0 rfl (Up.cellIs _ _ _) (blk_cell rfl))) rfl ?_
                            refine OL.on g19_53 rfl rfl ?_
                            refine OL.q (Y.neq rfl rfl) rfl ?_
                            refine OL.on g19_44 rfl rfl ?_
                            refine OL.q (Y.pickT rfl g19_53 rfl) rfl ?_
                            refine OL.on g19_44 rfl rfl ?_
                            refine OL.q (Y.move rfl) rfl ?_
                            refine OL.guard (s := 188) rfl (fun g19_58 => ?_) (fun g19_58 => ?_)
                            · have ng19_58 := g19_58
                              repeat (first | replace ng19_58 := yes ng19_58 | replace ng19_58 := no ng19_58 | replace ng19_58 := nyes ng19_58 | replace ng19_58 := nno ng19_58)
                              refine OL.on g19_58 rfl rfl ?_
                              refine OL.q (Y.move rfl) rfl ?_
                              refine OL.on g19_58 rfl rfl ?_
                              refine OL.q (Y.lss rfl rfl) rfl ?_
                              refine OL.on g19_44 rfl rfl ?_
                              refine OL.q (Y.pickT rfl g19_58 rfl) rfl ?_
                              refine OL.q (Y.pickF rfl g19_44 rfl) rfl ?_
                              refine OL.nil ?_
                              exact EX.meet _ [0] (by dsimp only; first | (rw [ng19_44, Bool.true_or]) | (rw [ng19_44, Bool.false_or]; first | exact (decide_eq_true (by omega)).symm | exact (decide_eq_false (by omega)).symm | exact decide_eq_decide.2 (by omega))) ⟨rfl, rfl, rfl, rfl, trivial⟩ rfl rfl
                            · have ng19_58 := g19_58
                              repeat (first | replace ng19_58 := yes ng19_58 | replace ng19_58 := no ng19_58 | replace ng19_58 := nyes ng19_58 | replace ng19_58 := nno ng19_58)
                              refine OL.no g19_58 rfl rfl rfl ?_
                              refine OL.no g19_58 rfl rfl rfl ?_
                              refine OL.on g19_44 rfl rfl ?_
                              refine OL.q (Y.pickF rfl g19_58 rfl) rfl ?_
                              refine OL.q (Y.pickF rfl g19_44 rfl) rfl ?_
                              refine OL.nil ?_
                              exact EX.meet _ [0] (by dsimp only; first | (rw [ng19_44, Bool.true_or]) | (rw [ng19_44, Bool.false_or]; first | exact (decide_eq_true (by omega)).symm | exact (decide_eq_false (by omega)).symm | exact decide_eq_decide.2 (by omega))) ⟨rfl, rfl, rfl, rfl, trivial⟩ rfl rfl
                          · have ng19_53 := g19_53
                            repeat (first | replace ng19_53 := yes ng19_53 | replace ng19_53 := no ng19_53 | replace ng19_53 := nyes ng19_53 | replace ng19_53 := nno ng19_53)
                            refine OL.no g19_53 rfl rfl rfl ?_
                            refine OL.no g19_53 rfl rfl rfl ?_
                            refine OL.no g19_53 rfl rfl rfl ?_
                            refine OL.on g19_44 rfl rfl ?_
                            refine OL.q (Y.pickF rfl g19_53 rfl) rfl ?_
                            refine OL.on g19_44 rfl rfl ?_
                            refine OL.q (Y.move rfl) rfl ?_
                            have g19_58 : false = false := rfl
                            refine OL.no g19_58 rfl rfl rfl ?_
                            refine OL.no g19_58 rfl rfl rfl ?_
                            refine OL.on g19_44 rfl rfl ?_
                            refine OL.q (Y.pickF rfl g19_58 rfl) rfl ?_
                            refine OL.q (Y.pickF rfl g19_44 rfl) rfl ?_
                            refine OL.nil ?_
                            exact EX.meet _ [0] (by dsimp only; first | (rw [ng19_44, Bool.true_or]) | (rw [ng19_44, Bool.false_or]; first | exact (decide_eq_true (by omega)).symm | exact (decide_eq_false (by omega)).symm | exact decide_eq_decide.2 (by omega))) ⟨rfl, rfl, rfl, rfl, trivial⟩ rfl rfl
                        · have ng19_48 := g19_48
                          repeat (first | replace ng19_48 := yes ng19_48 | replace ng19_48 := no ng19_48 | replace ng19_48 := nyes ng19_48 | replace ng19_48 := nno ng19_48)
                          refine OL.no g19_48 rfl rfl rfl ?_
                          refine OL.no g19_48 rfl rfl rfl ?_
                          refine OL.no g19_48 rfl rfl rfl ?_
                          refine OL.on g19_44 rfl rfl ?_
                          refine OL.q (Y.pickF rfl g19_48 rfl) rfl ?_
                          refine OL.on g19_44 rfl rfl ?_
                          refine OL.q (Y.move rfl) rfl ?_
                          have g19_53 : false = false := rfl
                          refine OL.no g19_53 rfl rfl rfl ?_
                          refine OL.no g19_53 rfl rfl rfl ?_
                          refine OL.no g19_53 rfl rfl rfl ?_
                          refine OL.on g19_44 rfl rfl ?_
                          refine OL.q (Y.pickF rfl g19_53 rfl) rfl ?_
                          refine OL.on g19_44 rfl rfl ?_
                          refine OL.q (Y.move rfl) rfl ?_
                          have g19_58 : false = false := rfl
                          refine OL.no g19_58 rfl rfl rfl ?_
                          refine OL.no g19_58 rfl rfl rfl ?_
                          refine OL.on g19_44 rfl rfl ?_
                          refine OL.q (Y.pickF rfl g19_58 rfl) rfl ?_
                          refine OL.q (Y.pickF rfl g19_44 rfl) rfl ?_
                          refine OL.nil ?_
                          exact EX.meet _ [0] (by dsimp only; first | (rw [ng19_44, Bool.true_or]) | (rw [ng19_44, Bool.false_or]; first | exact (decide_eq_true (by omega)).symm | exact (decide_eq_false (by omega)).symm | exact decide_eq_decide.2 (by omega))) ⟨rfl, rfl, rfl, rfl, trivial⟩ rfl rfl
                    ·
                      rintro ze hze
                      dsimp only at hze ⊢
                      refine OL.nil ?_
                      refine EX.seq ?_
                      refine CW.cond rfl (fun h8 => ?_) (fun h8 => ?_)
                      · have bh8 := h8
                        repeat (first | replace h8 := yes h8 | replace h8 := no h8 | replace h8 := nyes h8 | replace h8 := nno h8)
                        refine CW.seq ?_
                        refine CW.region ?_
                        refine OL.q (Y.assign rfl) rfl ?_
                        refine OL.q (Y.assign rfl) rfl ?_
                        refine OL.nil ?_
                        refine EX.seq ?_
                        refine CW.ret ?_
                        refine EX.retT ?_
                        have hcb : cntB x.op x.n = true := by unfold cntB; rw [← hza, ← hzb, ← hzc, ← hzd, ← hze]; exact h8
                        have hn3 : x.op ≠ 3 := fun h => by rw [h] at hcb; unfold cntB at hcb; simp at hcb
                        have he : errs S x 2 = 15 := by show countE S x = 15; unfold countE; rw [hxl, cnt_right (by omega) hn3, hcb]; rfl
                        exact EX.fin2 [] rfl rfl rfl rfl ⟨by rw [wrongE_at (k := 2) (by decide) (errs2 hh0 hh1) (by rw [he]; decide), he]; rfl, rfl⟩
                      · have bh8 := h8
                        repeat (first | replace h8 := yes h8 | replace h8 := no h8 | replace h8 := nyes h8 | replace h8 := nno h8)
                        have hcb : cntB x.op x.n = false := by unfold cntB; rw [← hza, ← hzb, ← hzc, ← hzd, ← hze]; exact h8
                        refine CW.skip ?_
                        refine EX.seq ?_
                        refine CW.cut (α := Unit) ⟨(fun _ => rightB x.op x.kids.length (funAt S x.fn).args.length = true), (fun _ => [(0, Value.pointer (some { block := r, off := 0 })), (3, Value.pointer (some { block := b3, off := 0 })), (7, Value.int IntKind.i64 ↑x.n)]), (fun _ => [blk b3 (termCells x) 30])⟩ ?_ ?_
                        ·
                          refine CW.seq ?_
                          refine CW.drawn [(true, 0), (true, 1), (true, 2), (true, 3), (true, 4), (true, 5), (true, 6), (true, 7), (true, 8), (true, 9), (true, 10), (true, 11), (true, 12), (true, 13), (true, 14), (true, 15), (true, 16)] [] [0] mixed (by kernel_rfl) (by repeat (first | exact PanicOk.body | refine PanicOk.then ?_ | refine PanicOk.block ?_)) (by kernel_rfl) rfl rfl rfl rfl ?_
                          refine OL.qt (Y.field L30_0 rfl) rfl ?_
                          refine OL.qt (Y.load T3 rfl (Ent.at 0 rfl (Up.cellIs _ _ _) (blk_cell rfl))) rfl ?_
                          refine OL.qt (Y.eql rfl rfl) rfl ?_
                          refine OL.qt (Y.move rfl) rfl ?_
                          refine OL.guard (s := 196) rfl (fun g21_3 => ?_) (fun g21_3 => ?_)
                          · have ng21_3 := g21_3
                            repeat (first | replace ng21_3 := yes ng21_3 | replace ng21_3 := no ng21_3 | replace ng21_3 := nyes ng21_3 | replace ng21_3 := nno ng21_3)
                            obtain ⟨m, hm, hml⟩ := bad_nat (h3f ng21_3)
                            obtain ⟨f, hfm⟩ : ∃ f, S.funs[m]? = some f := ⟨_, List.getElem?_eq_getElem (by rw [hS.fn]; exact hml)⟩
                            obtain ⟨⟨hfr, hfc, hfl⟩, hfz⟩ := hS.funs f (mem_of hfm)
                            have hfa : funAt S x.fn = f := by rw [hm]; exact funAt_is hfm
                            refine OL.ont g21_3 rfl rfl ?_
                            refine OL.qt (Y.move rfl) rfl ?_
                            refine OL.ont g21_3 rfl rfl ?_
                            refine OL.qt (Y.move rfl) rfl ?_
                            refine OL.ont g21_3 rfl rfl ?_
                            refine OL.qt (Y.nilCheck rfl) rfl ?_
                            refine OL.ont g21_3 rfl rfl ?_
                            refine OL.qt (Y.field L62_1 rfl) rfl ?_
                            refine OL.ont g21_3 rfl rfl ?_
                            refine OL.qt (Y.load T55 rfl (Ent.via hF (Up.cellIs _ _ _) (Ent.at 0 rfl (Up.cellIs _ _ _) (blk_cell rfl)))) rfl ?_
                            refine OL.ont g21_3 rfl rfl ?_
                            refine OL.qt (Y.field L30_1 rfl) rfl ?_
                            refine OL.ont g21_3 rfl rfl ?_
                            refine OL.qt (Y.load T3 rfl (Ent.at 0 rfl (Up.cellIs _ _ _) (blk_cell rfl))) rfl ?_
                            refine OL.ont g21_3 rfl rfl ?_
                            refine OL.qt (Y.index (k := m) Tryd.underlying55 C38 rfl rfl (Ent.via hF (Up.rd _ _ _ _) (Ent.at 2 rfl (Up.rd _ _ _ _) row_rd)) hm hml) rfl ?_
                            refine OL.ont g21_3 rfl rfl ?_
                            refine OL.qt (Y.field L38_1 rfl) rfl ?_
                            refine OL.ont g21_3 rfl rfl ?_
                            refine OL.qt (Y.load T28 rfl (cellsIs_at (rd_at (Ent.via hF (Up.rd _ _ _ _) (Ent.at 2 rfl (Up.rd _ _ _ _) row_rd)) (mget funCells hfm)) rfl)) rfl ?_
                            refine OL.ont g21_3 rfl rfl ?_
                            refine OL.qt (Y.lenSl Tryd.underlying28 rfl) rfl ?_
                            refine OL.ont g21_3 rfl rfl ?_
                            refine OL.qt (Y.neq rfl rfl) rfl ?_
                            refine OL.qt (Y.pickT rfl g21_3 rfl) rfl ?_
                            refine OL.nil ?_
                            refine EX.tail ?_
                            refine OL.nil ?_
                            refine EX.seq ?_
                            refine CW.cond rfl (fun h9 => ?_) (fun h9 => ?_)
                            · have bh9 := h9
                              repeat (first | replace h9 := yes h9 | replace h9 := no h9 | replace h9 := nyes h9 | replace h9 := nno h9)
                              refine CW.seq ?_
                              refine CW.region ?_
                              refine OL.q (Y.assign rfl) rfl ?_
                              refine OL.q (Y.assign rfl) rfl ?_
                              refine OL.nil ?_
                              refine EX.seq ?_
                              refine CW.ret ?_
                              refine EX.retT ?_
                              have he : errs S x 2 = 15 := by show countE S x = 15; unfold countE; rw [ng21_3, right3, hxl, hfa, decide_eq_false (by omega)]; rfl
                              exact EX.fin2 [] rfl rfl rfl rfl ⟨by rw [wrongE_at (k := 2) (by decide) (errs2 hh0 hh1) (by rw [he]; decide), he]; rfl, rfl⟩
                            · have bh9 := h9
                              repeat (first | replace h9 := yes h9 | replace h9 := no h9 | replace h9 := nyes h9 | replace h9 := nno h9)
                              refine CW.skip ?_
                              exact EX.meet () [0] (by rw [ng21_3, right3, hxl, hfa]; exact decide_eq_true (by omega)) ⟨rfl, rfl, rfl, trivial⟩ rfl rfl
                          · have ng21_3 := g21_3
                            repeat (first | replace ng21_3 := yes ng21_3 | replace ng21_3 := no ng21_3 | replace ng21_3 := nyes ng21_3 | replace ng21_3 := nno ng21_3)
                            refine OL.tno g21_3 rfl rfl rfl ?_
                            refine OL.tno g21_3 rfl rfl rfl ?_
                            refine OL.tno g21_3 rfl rfl rfl ?_
                            refine OL.tno g21_3 rfl rfl rfl ?_
                            refine OL.tno g21_3 rfl rfl rfl ?_
                            refine OL.tno g21_3 rfl rfl rfl ?_
                            refine OL.tno g21_3 rfl rfl rfl ?_
                            refine OL.tno g21_3 rfl rfl rfl ?_
                            refine OL.tno g21_3 rfl rfl rfl ?_
                            refine OL.tno g21_3 rfl rfl rfl ?_
                            refine OL.tno g21_3 rfl rfl rfl ?_
                            refine OL.tno g21_3 rfl rfl rfl ?_
                            refine OL.qt (Y.pickF rfl g21_3 rfl) rfl ?_
                            refine OL.nil ?_
                            refine EX.tail ?_
                            refine OL.nil ?_
                            refine EX.seq ?_
                            refine CW.condF rfl (rfl) ?_
                            refine CW.skip ?_
                            exact EX.meet () [0] (by rw [hxl, cnt_right (by omega) ng21_3, hcb]; rfl) ⟨rfl, rfl, rfl, trivial⟩ rfl rfl
                        ·
                          rintro z hct
                          dsimp only
                          refine CW.seq ?_
                          refine CW.region ?_
                          refine OL.q (Y.assign rfl) rfl ?_
                          refine OL.nil ?_
                          refine EX.seq ?_
                          refine CW.seq ?_
                          refine CW.seq ?_
                          refine CW.region ?_
                          refine OL.q (Y.assign rfl) rfl ?_
                          refine OL.nil ?_
                          refine EX.seq ?_
                          refine CW.block ?_
                          have hh2 : errs S x 2 = 0 := by show countE S x = 0; unfold countE; rw [hct]; rfl
                          refine CW.loop (α := Nat) ⟨(fun k => k ≤ x.n ∧ ∀ j, j < k → okSort S x j = true), (fun k => [(0, Value.pointer (some { block := r, off := 0 })), (3, Value.pointer (some { block := b3, off := 0 })), (7, Value.int IntKind.i64 ↑x.n), (9, .int .i64 (freeK S (x.kids.take k))), (10, .int .i64 k)]), (fun k => [blk b3 (termCells x) 30])⟩
                            (fun k => (x.n - k : Nat)) 0 [0] ⟨Nat.zero_le _, fun j h => absurd h (Nat.not_lt_zero j)⟩ ⟨rfl, rfl, rfl, rfl, rfl, trivial⟩ rfl rfl ?_
                          rintro k ⟨hk, hj⟩
                          dsimp only at hk hj ⊢
                          refine CW.seq ?_
                          refine CW.seq ?_
                          refine CW.region ?_
                          refine OL.q (Y.move rfl) rfl ?_
                          refine OL.q (Y.move rfl) rfl ?_
                          refine OL.q (Y.lss rfl rfl) rfl ?_
                          refine OL.nil ?_
                          refine EX.seq ?_
                          refine CW.cond rfl (fun h10 => ?_) (fun h10 => ?_)
                          · have bh10 := h10
                            repeat (first | replace h10 := yes h10 | replace h10 := no h10 | replace h10 := nyes h10 | replace h10 := nno h10)
                            obtain ⟨z, hp⟩ : ∃ p, x.kids[k]? = some p := ⟨_, List.getElem?_eq_getElem (by omega)⟩
                            have hkb : ∀ q ∈ x.kids, bad v.tn q = false := fun q hq => by have h9 := kids_ok hh1 q hq; rwa [hS.tn] at h9
                            obtain ⟨m, rfl, hml⟩ := bad_nat (hkb z (mem_of hp))
                            obtain ⟨o, ho⟩ : ∃ z, S.of[m]? = some z := ⟨_, List.getElem?_eq_getElem (by rw [hS.on]; exact hml)⟩
                            have hfk : freeK S (x.kids.take k) ≤ k := by unfold freeK; exact Nat.le_trans (List.length_filter_le _ _) (by simp; omega)
                            refine CW.skip ?_
                            refine EX.seq ?_
                            refine CW.seq ?_
                            refine CW.block ?_
                            refine CW.seq ?_
                            refine CW.region ?_
                            refine OL.q (Y.assign rfl) rfl ?_
                            refine OL.nil ?_
                            refine EX.seq ?_
                            refine CW.cut (α := Int) ⟨(fun w => w = if 13 ≤ x.op then 1 else 0), (fun w => [(0, Value.pointer (some { block := r, off := 0 })), (3, Value.pointer (some { block := b3, off := 0 })), (7, Value.int IntKind.i64 ↑x.n), (9, Value.int IntKind.i64 ↑(freeK S (List.take k x.kids))), (10, Value.int IntKind.i64 ↑k), (11, .int .i64 w)]), (fun w => [blk b3 (termCells x) 30])⟩ ?_ ?_
                            ·
                              refine CW.seq ?_
                              refine CW.region ?_
                              refine OL.q (Y.field L30_0 rfl) rfl ?_
                              refine OL.q (Y.load T3 rfl (Ent.at 0 rfl (Up.cellIs _ _ _) (blk_cell rfl))) rfl ?_
                              refine OL.q (Y.geq rfl rfl) rfl ?_
                              refine OL.nil ?_
                              refine EX.seq ?_
                              refine CW.cond rfl (fun h11 => ?_) (fun h11 => ?_)
                              · have bh11 := h11
                                repeat (first | replace h11 := yes h11 | replace h11 := no h11 | replace h11 := nyes h11 | replace h11 := nno h11)
                                refine CW.region ?_
                                refine OL.q (Y.assign rfl) rfl ?_
                                refine OL.nil ?_
                                exact EX.meet 1 [0] (by rw [if_pos (by omega)]) ⟨rfl, rfl, rfl, rfl, rfl, rfl, trivial⟩ rfl rfl
                              · have bh11 := h11
                                repeat (first | replace h11 := yes h11 | replace h11 := no h11 | replace h11 := nyes h11 | replace h11 := nno h11)
                                refine CW.skip ?_
                                exact EX.meet 0 [0] (by rw [if_neg (by omega)]) ⟨rfl, rfl, rfl, rfl, rfl, rfl, trivial⟩ rfl rfl
                            ·
                              rintro w hw
                              dsimp only at hw ⊢
                              refine CW.cut (α := Int) ⟨(fun w2 => w2 = if x.op = 3 then (funAt S x.fn).args.getD k 0 else w), (fun w2 => [(0, Value.pointer (some { block := r, off := 0 })), (3, Value.pointer (some { block := b3, off := 0 })), (7, Value.int IntKind.i64 ↑x.n), (9, Value.int IntKind.i64 ↑(freeK S (List.take k x.kids))), (10, Value.int IntKind.i64 ↑k), (11, .int .i64 w2)]), (fun w2 => [blk b3 (termCells x) 30])⟩ ?_ ?_
                              ·
                                refine CW.seq ?_
                                refine CW.region ?_
                                refine OL.q (Y.field L30_0 rfl) rfl ?_
                                refine OL.q (Y.load T3 rfl (Ent.at 0 rfl (Up.cellIs _ _ _) (blk_cell rfl))) rfl ?_
                                refine OL.q (Y.eql rfl rfl) rfl ?_
                                refine OL.nil ?_
                                refine EX.seq ?_
                                refine CW.cond rfl (fun h12 => ?_) (fun h12 => ?_)
                                · have bh12 := h12
                                  repeat (first | replace h12 := yes h12 | replace h12 := no h12 | replace h12 := nyes h12 | replace h12 := nno h12)
                                  obtain ⟨m, hm, hml⟩ := bad_nat (h3f h12)
                                  obtain ⟨f, hfm⟩ : ∃ f, S.funs[m]? = some f := ⟨_, List.getElem?_eq_getElem (by rw [hS.fn]; exact hml)⟩
                                  obtain ⟨⟨hfr, hfc, hfl⟩, hfz⟩ := hS.funs f (mem_of hfm)
                                  have hfa : funAt S x.fn = f := by rw [hm]; exact funAt_is hfm
                                  have hct2 := hct
                                  rw [h12, hfa] at hct2
                                  have hcn := right_app hct2
                                  obtain ⟨q, hq⟩ : ∃ z, f.args[k]? = some z := ⟨_, List.getElem?_eq_getElem (by omega)⟩
                                  refine CW.drawn [(true, 0), (true, 1), (true, 2), (true, 3), (true, 4), (true, 5), (true, 6), (true, 7), (true, 8), (true, 9), (true, 10), (true, 11)] [12] [0] mixed (by kernel_rfl) (by repeat (first | exact PanicOk.body | refine PanicOk.then ?_ | refine PanicOk.block ?_)) (by kernel_rfl) rfl rfl rfl rfl ?_
                                  refine OL.qt (Y.move rfl) rfl ?_
                                  refine OL.qt (Y.nilCheck rfl) rfl ?_
                                  refine OL.qt (Y.field L62_1 rfl) rfl ?_
                                  refine OL.qt (Y.load T55 rfl (Ent.via hF (Up.cellIs _ _ _) (Ent.at 0 rfl (Up.cellIs _ _ _) (blk_cell rfl)))) rfl ?_
                                  refine OL.qt (Y.field L30_1 rfl) rfl ?_
                                  refine OL.qt (Y.load T3 rfl (Ent.at 0 rfl (Up.cellIs _ _ _) (blk_cell rfl))) rfl ?_
                                  refine OL.qt (Y.index (k := m) Tryd.underlying55 C38 rfl rfl (Ent.via hF (Up.rd _ _ _ _) (Ent.at 2 rfl (Up.rd _ _ _ _) row_rd)) hm hml) rfl ?_
                                  refine OL.qt (Y.field L38_1 rfl) rfl ?_
                                  refine OL.qt (Y.load T28 rfl (cellsIs_at (rd_at (Ent.via hF (Up.rd _ _ _ _) (Ent.at 2 rfl (Up.rd _ _ _ _) row_rd)) (mget funCells hfm)) rfl)) rfl ?_
                                  refine OL.qt (Y.move rfl) rfl ?_
                                  refine OL.qt (Y.index (k := k) Tryd.underlying28 C3 rfl rfl (Ent.frame (Up.rd _ _ _ _) (fun h hs => imm_ent (Up.rd _ _ _ _) hfr h (hI h hs))) rfl (by omega)) rfl ?_
                                  refine OL.qt (Y.load T3 rfl (cellsIs_at0 (rd_at (Ent.frame (Up.rd _ _ _ _) (fun h hs => imm_ent (Up.rd _ _ _ _) hfr h (hI h hs))) (mget intCells hq)) rfl)) rfl ?_
                                  refine OL.nil ?_
                                  refine EX.tail ?_
                                  refine OL.q (Y.assign rfl) rfl ?_
                                  refine OL.nil ?_
                                  exact EX.meet _ [0] (by rw [if_pos h12, hfa, getD_at hq]) ⟨rfl, rfl, rfl, rfl, rfl, rfl, trivial⟩ rfl rfl
                                · have bh12 := h12
                                  repeat (first | replace h12 := yes h12 | replace h12 := no h12 | replace h12 := nyes h12 | replace h12 := nno h12)
                                  refine CW.skip ?_
                                  exact EX.meet _ [0] (by rw [if_neg h12]) ⟨rfl, rfl, rfl, rfl, rfl, rfl, trivial⟩ rfl rfl
                              ·
                                rintro w2 hw2
                                dsimp only at hw2 ⊢
                                refine CW.cut (α := Int) ⟨(fun w3 => w3 = if x.op = 11 ∨ x.op = 12 then ofAt S (kidAt x 0) else w2), (fun w3 => [(0, Value.pointer (some { block := r, off := 0 })), (3, Value.pointer (some { block := b3, off := 0 })), (7, Value.int IntKind.i64 ↑x.n), (9, Value.int IntKind.i64 ↑(freeK S (List.take k x.kids))), (10, Value.int IntKind.i64 ↑k), (11, .int .i64 w3)]), (fun w3 => [blk b3 (termCells x) 30])⟩ ?_ ?_
                                ·
                                  refine CW.seq ?_
                                  refine CW.region ?_
                                  refine OL.cutAt (α := Bool) 8 ⟨(fun z32 => z32 = decide (x.op = 11 ∨ x.op = 12)), (fun z32 => [(0, Value.pointer (some { block := r, off := 0 })), (3, Value.pointer (some { block := b3, off := 0 })), (7, Value.int IntKind.i64 ↑x.n), (9, Value.int IntKind.i64 ↑(freeK S (List.take k x.kids))), (10, Value.int IntKind.i64 ↑k), (11, Value.int IntKind.i64 w2), (240, .bool z32)]), (fun z32 => [blk b3 (termCells x) 30])⟩ ?_ ?_
                                  ·
                                    refine OL.q (Y.field L30_0 rfl) rfl ?_
                                    refine OL.q (Y.load T3 rfl (Ent.at 0 rfl (Up.cellIs _ _ _) (blk_cell rfl))) rfl ?_
                                    refine OL.q (Y.eql rfl rfl) rfl ?_
                                    refine OL.q (Y.move rfl) rfl ?_
                                    refine OL.guard (s := 236) rfl (fun g32_3 => ?_) (fun g32_3 => ?_)
                                    · have ng32_3 := g32_3
                                      repeat (first | replace ng32_3 := yes ng32_3 | replace ng32_3 := no ng32_3 | replace ng32_3 := nyes ng32_3 | replace ng32_3 := nno ng32_3)
                                      refine OL.no g32_3 rfl rfl rfl ?_
                                      refine OL.no g32_3 rfl rfl rfl ?_
                                      refine OL.no g32_3 rfl rfl rfl ?_
                                      refine OL.q (Y.pickT rfl g32_3 rfl) rfl ?_
                                      refine OL.nil ?_
                                      exact EX.meet _ [0] (by dsimp only; first | exact (decide_eq_true (by omega)).symm | exact (decide_eq_false (by omega)).symm | exact decide_eq_decide.2 (by omega) | (simp [*]; done) | (rw [Bool.eq_iff_iff]; simp [*]; done) | (rw [Bool.eq_iff_iff]; simp; omega) | (rw [Bool.eq_iff_iff]; simp [*]; omega)) ⟨rfl, rfl, rfl, rfl, rfl, rfl, rfl, trivial⟩ rfl rfl
                                    · have ng32_3 := g32_3
                                      repeat (first | replace ng32_3 := yes ng32_3 | replace ng32_3 := no ng32_3 | replace ng32_3 := nyes ng32_3 | replace ng32_3 := nno ng32_3)
                                      refine OL.on g32_3 rfl rfl ?_
                                      refine OL.q (Y.field L30_0 rfl) rfl ?_
                                      refine OL.on g32_3 rfl rfl ?_
                                      refine OL.q (Y.load T3 rfl (Ent.at 0 rfl (Up.cellIs _ _ _) (blk_cell rfl))) rfl ?_
                                      refine OL.on g32_3 rfl rfl ?_
                                      refine OL.q (Y.eql rfl rfl) rfl ?_
                                      refine OL.q (Y.pickF rfl g32_3 rfl) rfl ?_
                                      refine OL.nil ?_
                                      exact EX.meet _ [0] (by dsimp only; first | exact (decide_eq_true (by omega)).symm | exact (decide_eq_false (by omega)).symm | exact decide_eq_decide.2 (by omega) | (simp [*]; done) | (rw [Bool.eq_iff_iff]; simp [*]; done) | (rw [Bool.eq_iff_iff]; simp; omega) | (rw [Bool.eq_iff_iff]; simp [*]; omega)) ⟨rfl, rfl, rfl, rfl, rfl, rfl, rfl, trivial⟩ rfl rfl
                                  ·
                                    rintro z32 hz32
                                    dsimp only at hz32 ⊢
                                    refine OL.nil ?_
                                    refine EX.seq ?_
                                    refine CW.cond rfl (fun h13 => ?_) (fun h13 => ?_)
                                    · have bh13 := h13
                                      repeat (first | replace h13 := yes h13 | replace h13 := no h13 | replace h13 := nyes h13 | replace h13 := nno h13)
                                      rw [h13] at hz32
                                      have hz33 := of_decide_eq_true hz32.symm
                                      have hcn := right_eq (hz33) hct
                                      obtain ⟨z2, hp2⟩ : ∃ p, x.kids[0]? = some p := ⟨_, List.getElem?_eq_getElem (by omega)⟩
                                      obtain ⟨m2, hm2, hml2⟩ := bad_nat (hkb z2 (mem_of hp2))
                                      obtain ⟨o2, ho2⟩ : ∃ z, S.of[m2]? = some z := ⟨_, List.getElem?_eq_getElem (by rw [hS.on]; exact hml2)⟩
                                      refine CW.drawn [(true, 0), (true, 1), (true, 2), (true, 3), (true, 4), (true, 5), (true, 6), (true, 7), (true, 8), (true, 9)] [10] [0] mixed (by kernel_rfl) (by repeat (first | exact PanicOk.body | refine PanicOk.then ?_ | refine PanicOk.block ?_)) (by kernel_rfl) rfl rfl rfl rfl ?_
                                      refine OL.qt (Y.move rfl) rfl ?_
                                      refine OL.qt (Y.nilCheck rfl) rfl ?_
                                      refine OL.qt (Y.field L62_3 rfl) rfl ?_
                                      refine OL.qt (Y.load T28 rfl (Ent.via hF (Up.cellIs _ _ _) (Ent.at 0 rfl (Up.cellIs _ _ _) (blk_cell rfl)))) rfl ?_
                                      refine OL.qt (Y.field L30_2 rfl) rfl ?_
                                      refine OL.qt (Y.load T28 rfl (Ent.at 0 rfl (Up.cellIs _ _ _) (blk_cell rfl))) rfl ?_
                                      refine OL.qt (Y.index (k := 0) Tryd.underlying28 C3 rfl rfl (Ent.frame (Up.rd _ _ _ _) (fun h hs => imm_ent (Up.rd _ _ _ _) hxr h (hI h hs))) rfl (by omega)) rfl ?_
                                      refine OL.qt (Y.load T3 rfl (cellsIs_at0 (rd_at (Ent.frame (Up.rd _ _ _ _) (fun h hs => imm_ent (Up.rd _ _ _ _) hxr h (hI h hs))) (mget intCells hp2)) rfl)) rfl ?_
                                      refine OL.qt (Y.index (k := m2) Tryd.underlying28 C3 rfl rfl (Ent.via hF (Up.rd _ _ _ _) (Ent.at 4 rfl (Up.rd _ _ _ _) row_rd)) hm2 (by omega)) rfl ?_
                                      refine OL.qt (Y.load T3 rfl (cellsIs_at0 (rd_at (Ent.via hF (Up.rd _ _ _ _) (Ent.at 4 rfl (Up.rd _ _ _ _) row_rd)) (mget intCells ho2)) rfl)) rfl ?_
                                      refine OL.nil ?_
                                      refine EX.tail ?_
                                      refine OL.q (Y.assign rfl) rfl ?_
                                      refine OL.nil ?_
                                      exact EX.meet _ [0] (by rw [if_pos hz33]; unfold kidAt; rw [getD_at hp2, hm2, ofAt_is ho2]) ⟨rfl, rfl, rfl, rfl, rfl, rfl, trivial⟩ rfl rfl
                                    · have bh13 := h13
                                      repeat (first | replace h13 := yes h13 | replace h13 := no h13 | replace h13 := nyes h13 | replace h13 := nno h13)
                                      rw [h13] at hz32
                                      have hz33 := of_decide_eq_false hz32.symm
                                      refine CW.skip ?_
                                      exact EX.meet _ [0] (by rw [if_neg hz33]) ⟨rfl, rfl, rfl, rfl, rfl, rfl, trivial⟩ rfl rfl
                                ·
                                  rintro w3 hw3
                                  dsimp only at hw3 ⊢
                                  refine CW.cut (α := Int) ⟨(fun w4 => w4 = wantE S x k), (fun w4 => [(0, Value.pointer (some { block := r, off := 0 })), (3, Value.pointer (some { block := b3, off := 0 })), (7, Value.int IntKind.i64 ↑x.n), (9, Value.int IntKind.i64 ↑(freeK S (List.take k x.kids))), (10, Value.int IntKind.i64 ↑k), (11, .int .i64 w4)]), (fun w4 => [blk b3 (termCells x) 30])⟩ ?_ ?_
                                  ·
                                    refine CW.seq ?_
                                    refine CW.region ?_
                                    refine OL.cutAt (α := Bool) 7 ⟨(fun z34 => z34 = decide (x.op = 10 ∧ 0 < k)), (fun z34 => [(0, Value.pointer (some { block := r, off := 0 })), (3, Value.pointer (some { block := b3, off := 0 })), (7, Value.int IntKind.i64 ↑x.n), (9, Value.int IntKind.i64 ↑(freeK S (List.take k x.kids))), (10, Value.int IntKind.i64 ↑k), (11, Value.int IntKind.i64 w3), (257, .bool z34)]), (fun z34 => [blk b3 (termCells x) 30])⟩ ?_ ?_
                                    ·
                                      refine OL.q (Y.field L30_0 rfl) rfl ?_
                                      refine OL.q (Y.load T3 rfl (Ent.at 0 rfl (Up.cellIs _ _ _) (blk_cell rfl))) rfl ?_
                                      refine OL.q (Y.eql rfl rfl) rfl ?_
                                      refine OL.q (Y.move rfl) rfl ?_
                                      refine OL.guard (s := 254) rfl (fun g34_3 => ?_) (fun g34_3 => ?_)
                                      · have ng34_3 := g34_3
                                        repeat (first | replace ng34_3 := yes ng34_3 | replace ng34_3 := no ng34_3 | replace ng34_3 := nyes ng34_3 | replace ng34_3 := nno ng34_3)
                                        refine OL.on g34_3 rfl rfl ?_
                                        refine OL.q (Y.move rfl) rfl ?_
                                        refine OL.on g34_3 rfl rfl ?_
                                        refine OL.q (Y.gtr rfl rfl) rfl ?_
                                        refine OL.q (Y.pickT rfl g34_3 rfl) rfl ?_
                                        refine OL.nil ?_
                                        exact EX.meet _ [0] (by dsimp only; first | exact (decide_eq_true (by omega)).symm | exact (decide_eq_false (by omega)).symm | exact decide_eq_decide.2 (by omega) | (simp [*]; done) | (rw [Bool.eq_iff_iff]; simp [*]; done) | (rw [Bool.eq_iff_iff]; simp; omega) | (rw [Bool.eq_iff_iff]; simp [*]; omega)) ⟨rfl, rfl, rfl, rfl, rfl, rfl, rfl, trivial⟩ rfl rfl
                                      · have ng34_3 := g34_3
                                        repeat (first | replace ng34_3 := yes ng34_3 | replace ng34_3 := no ng34_3 | replace ng34_3 := nyes ng34_3 | replace ng34_3 := nno ng34_3)
                                        refine OL.no g34_3 rfl rfl rfl ?_
                                        refine OL.no g34_3 rfl rfl rfl ?_
                                        refine OL.q (Y.pickF rfl g34_3 rfl) rfl ?_
                                        refine OL.nil ?_
                                        exact EX.meet _ [0] (by dsimp only; first | exact (decide_eq_true (by omega)).symm | exact (decide_eq_false (by omega)).symm | exact decide_eq_decide.2 (by omega) | (simp [*]; done) | (rw [Bool.eq_iff_iff]; simp [*]; done) | (rw [Bool.eq_iff_iff]; simp; omega) | (rw [Bool.eq_iff_iff]; simp [*]; omega)) ⟨rfl, rfl, rfl, rfl, rfl, rfl, rfl, trivial⟩ rfl rfl
                                    ·
                                      rintro z34 hz34
                                      dsimp only at hz34 ⊢
                                      refine OL.nil ?_
                                      refine EX.seq ?_
                                      refine CW.cond rfl (fun h14 => ?_) (fun h14 => ?_)
                                      · have bh14 := h14
                                        repeat (first | replace h14 := yes h14 | replace h14 := no h14 | replace h14 := nyes h14 | replace h14 := nno h14)
                                        rw [h14] at hz34
                                        have hz35 := of_decide_eq_true hz34.symm
                                        have hct2 := hct
                                        rw [hz35.1] at hct2
                                        have hcn := right_ite hct2
                                        obtain ⟨z2, hp2⟩ : ∃ p, x.kids[1]? = some p := ⟨_, List.getElem?_eq_getElem (by omega)⟩
                                        obtain ⟨m2, hm2, hml2⟩ := bad_nat (hkb z2 (mem_of hp2))
                                        obtain ⟨o2, ho2⟩ : ∃ z, S.of[m2]? = some z := ⟨_, List.getElem?_eq_getElem (by rw [hS.on]; exact hml2)⟩
                                        refine CW.drawn [(true, 0), (true, 1), (true, 2), (true, 3), (true, 4), (true, 5), (true, 6), (true, 7), (true, 8), (true, 9)] [10] [0] mixed (by kernel_rfl) (by repeat (first | exact PanicOk.body | refine PanicOk.then ?_ | refine PanicOk.block ?_)) (by kernel_rfl) rfl rfl rfl rfl ?_
                                        refine OL.qt (Y.move rfl) rfl ?_
                                        refine OL.qt (Y.nilCheck rfl) rfl ?_
                                        refine OL.qt (Y.field L62_3 rfl) rfl ?_
                                        refine OL.qt (Y.load T28 rfl (Ent.via hF (Up.cellIs _ _ _) (Ent.at 0 rfl (Up.cellIs _ _ _) (blk_cell rfl)))) rfl ?_
                                        refine OL.qt (Y.field L30_2 rfl) rfl ?_
                                        refine OL.qt (Y.load T28 rfl (Ent.at 0 rfl (Up.cellIs _ _ _) (blk_cell rfl))) rfl ?_
                                        refine OL.qt (Y.index (k := 1) Tryd.underlying28 C3 rfl rfl (Ent.frame (Up.rd _ _ _ _) (fun h hs => imm_ent (Up.rd _ _ _ _) hxr h (hI h hs))) rfl (by omega)) rfl ?_
                                        refine OL.qt (Y.load T3 rfl (cellsIs_at0 (rd_at (Ent.frame (Up.rd _ _ _ _) (fun h hs => imm_ent (Up.rd _ _ _ _) hxr h (hI h hs))) (mget intCells hp2)) rfl)) rfl ?_
                                        refine OL.qt (Y.index (k := m2) Tryd.underlying28 C3 rfl rfl (Ent.via hF (Up.rd _ _ _ _) (Ent.at 4 rfl (Up.rd _ _ _ _) row_rd)) hm2 (by omega)) rfl ?_
                                        refine OL.qt (Y.load T3 rfl (cellsIs_at0 (rd_at (Ent.via hF (Up.rd _ _ _ _) (Ent.at 4 rfl (Up.rd _ _ _ _) row_rd)) (mget intCells ho2)) rfl)) rfl ?_
                                        refine OL.nil ?_
                                        refine EX.tail ?_
                                        refine OL.q (Y.assign rfl) rfl ?_
                                        refine OL.nil ?_
                                        exact EX.meet _ [0] (by unfold wantE; rw [if_neg (by omega), if_neg (by omega), if_pos hz35.1, if_neg (by omega), getD_at hp2, hm2, ofAt_is ho2]) ⟨rfl, rfl, rfl, rfl, rfl, rfl, trivial⟩ rfl rfl
                                      · have bh14 := h14
                                        repeat (first | replace h14 := yes h14 | replace h14 := no h14 | replace h14 := nyes h14 | replace h14 := nno h14)
                                        rw [h14] at hz34
                                        have hz35 := of_decide_eq_false hz34.symm
                                        refine CW.skip ?_
                                        exact EX.meet _ [0] (by
                                          dsimp only
                                          rw [hw3, hw2, hw]
                                          unfold wantE kidAt
                                          by_cases e3 : x.op = 3
                                          · rw [if_pos e3, if_pos e3, if_neg (by omega)]
                                          · rw [if_neg e3, if_neg e3]
                                            by_cases e11 : x.op = 11 ∨ x.op = 12
                                            · rw [if_pos e11, if_neg (by omega), if_neg (by omega), if_pos e11]
                                            · rw [if_neg e11]
                                              by_cases e5 : x.op = 5 ∨ x.op = 6 ∨ x.op = 7 ∨ x.op = 8 ∨ x.op = 9
                                              · rw [if_pos e5, if_neg (by omega)]
                                              · rw [if_neg e5]
                                                by_cases e10 : x.op = 10
                                                · rw [if_pos e10, if_neg (show ¬ 13 ≤ x.op by omega), if_pos (show k = 0 by omega)]
                                                · rw [if_neg e10, if_neg e11]
                                                  by_cases e13 : 13 ≤ x.op
                                                  · rw [if_pos e13]
                                                  · exfalso
                                                    have hcb2 := hct
                                                    have hk0 : 0 < x.n := by omega
                                                    have : x.op = 1 ∨ x.op = 2 ∨ x.op = 4 := by omega
                                                    unfold rightB at hcb2
                                                    rw [if_pos this, hxl] at hcb2
                                                    simp at hcb2
                                                    omega) ⟨rfl, rfl, rfl, rfl, rfl, rfl, trivial⟩ rfl rfl
                                  ·
                                    rintro w4 hw4
                                    dsimp only at hw4 ⊢
                                    refine CW.seq ?_
                                    refine CW.seq ?_
                                    refine CW.drawn [(true, 0), (true, 1), (true, 2), (true, 3), (true, 4), (true, 5), (true, 6), (true, 7), (true, 8), (true, 9), (true, 10), (true, 11), (true, 12)] [] [0] mixed (by kernel_rfl) (by repeat (first | exact PanicOk.body | refine PanicOk.then ?_ | refine PanicOk.block ?_)) (by kernel_rfl) rfl rfl rfl rfl ?_
                                    refine OL.qt (Y.move rfl) rfl ?_
                                    refine OL.qt (Y.nilCheck rfl) rfl ?_
                                    refine OL.qt (Y.field L62_3 rfl) rfl ?_
                                    refine OL.qt (Y.load T28 rfl (Ent.via hF (Up.cellIs _ _ _) (Ent.at 0 rfl (Up.cellIs _ _ _) (blk_cell rfl)))) rfl ?_
                                    refine OL.qt (Y.field L30_2 rfl) rfl ?_
                                    refine OL.qt (Y.load T28 rfl (Ent.at 0 rfl (Up.cellIs _ _ _) (blk_cell rfl))) rfl ?_
                                    refine OL.qt (Y.move rfl) rfl ?_
                                    refine OL.qt (Y.index (k := k) Tryd.underlying28 C3 rfl rfl (Ent.frame (Up.rd _ _ _ _) (fun h hs => imm_ent (Up.rd _ _ _ _) hxr h (hI h hs))) rfl (by omega)) rfl ?_
                                    refine OL.qt (Y.load T3 rfl (cellsIs_at0 (rd_at (Ent.frame (Up.rd _ _ _ _) (fun h hs => imm_ent (Up.rd _ _ _ _) hxr h (hI h hs))) (mget intCells hp)) rfl)) rfl ?_
                                    refine OL.qt (Y.index (k := m) Tryd.underlying28 C3 rfl rfl (Ent.via hF (Up.rd _ _ _ _) (Ent.at 4 rfl (Up.rd _ _ _ _) row_rd)) rfl (by omega)) rfl ?_
                                    refine OL.qt (Y.load T3 rfl (cellsIs_at0 (rd_at (Ent.via hF (Up.rd _ _ _ _) (Ent.at 4 rfl (Up.rd _ _ _ _) row_rd)) (mget intCells ho)) rfl)) rfl ?_
                                    refine OL.qt (Y.move rfl) rfl ?_
                                    refine OL.qt (Y.neq rfl rfl) rfl ?_
                                    refine OL.nil ?_
                                    refine EX.tail ?_
                                    refine OL.nil ?_
                                    refine EX.seq ?_
                                    refine CW.cond rfl (fun h15 => ?_) (fun h15 => ?_)
                                    · have bh15 := h15
                                      repeat (first | replace h15 := yes h15 | replace h15 := no h15 | replace h15 := nyes h15 | replace h15 := nno h15)
                                      refine CW.seq ?_
                                      refine CW.region ?_
                                      refine OL.q (Y.assign rfl) rfl ?_
                                      refine OL.q (Y.assign rfl) rfl ?_
                                      refine OL.nil ?_
                                      refine EX.seq ?_
                                      refine CW.ret ?_
                                      refine EX.retT ?_
                                      refine EX.retB ?_
                                      refine EX.retT ?_
                                      refine EX.retT ?_
                                      refine EX.retB ?_
                                      refine EX.retT ?_
                                      have hd : okSort S x k = false := by unfold okSort; rw [getD_at hp, ofAt_is ho]; exact decide_eq_false (by omega)
                                      have he : errs S x 3 = 14 := by show sortE S x = 14; rw [sortE_eq, not_all_range (by omega) hd]; rfl
                                      exact EX.fin2 [] rfl rfl rfl rfl ⟨by rw [wrongE_at (k := 3) (by decide) (errs3 hh0 hh1 hh2) (by rw [he]; decide), he]; rfl, rfl⟩
                                    · have bh15 := h15
                                      repeat (first | replace h15 := yes h15 | replace h15 := no h15 | replace h15 := nyes h15 | replace h15 := nno h15)
                                      refine CW.skip ?_
                                      refine EX.seq ?_
                                      refine CW.seq ?_
                                      refine CW.region ?_
                                      refine OL.q (Y.move rfl) rfl ?_
                                      refine OL.q (Y.field L30_2 rfl) rfl ?_
                                      refine OL.q (Y.load T28 rfl (Ent.at 0 rfl (Up.cellIs _ _ _) (blk_cell rfl))) rfl ?_
                                      refine OL.q (Y.move rfl) rfl ?_
                                      refine OL.q (Y.index (k := k) Tryd.underlying28 C3 rfl rfl (Ent.frame (Up.rd _ _ _ _) (fun h hs => imm_ent (Up.rd _ _ _ _) hxr h (hI h hs))) rfl (by omega)) rfl ?_
                                      refine OL.q (Y.load T3 rfl (cellsIs_at0 (rd_at (Ent.frame (Up.rd _ _ _ _) (fun h hs => imm_ent (Up.rd _ _ _ _) hxr h (hI h hs))) (mget intCells hp)) rfl)) rfl ?_
                                      refine OL.call [] (rconst_any r S v M hS hC m hml) Tryd.call35 rfl rfl rfl rfl (Ent.frame (Up.and (Up.sl _) (fun _ _ e h => le.trans h e)) hF0) rfl ?_
                                      rintro _ _ ⟨rfl, rfl⟩
                                      refine ⟨rfl, rfl, ?_⟩
                                      refine OL.q (Y.not rfl) rfl ?_
                                      refine OL.nil ?_
                                      refine EX.seq ?_
                                      refine CW.cond rfl (fun h16 => ?_) (fun h16 => ?_)
                                      · have bh16 := h16
                                        repeat (first | replace h16 := yes h16 | replace h16 := no h16 | replace h16 := nyes h16 | replace h16 := nno h16)
                                        refine CW.region ?_
                                        refine OL.q (Y.move rfl) rfl ?_
                                        refine OL.q (Y.add1 rfl rfl rfl (by omega)) rfl ?_
                                        refine OL.q (Y.assign rfl) rfl ?_
                                        refine OL.nil ?_
                                        refine EX.norB ?_
                                        refine EX.seq ?_
                                        refine CW.region ?_
                                        refine OL.q (Y.move rfl) rfl ?_
                                        refine OL.q (Y.add1 rfl rfl rfl (by omega)) rfl ?_
                                        refine OL.q (Y.assign rfl) rfl ?_
                                        refine OL.nil ?_
                                        have hok : okSort S x k = true := by unfold okSort; rw [getD_at hp, ofAt_is ho]; exact decide_eq_true (by omega)
                                        have hfs := filt_snoc (S := S) hp
                                        exact EX.next (k + 1) [0] (show k + 1 ≤ x.n ∧ ∀ j, j < k + 1 → okSort S x j = true from ⟨by omega, fun j h => by
                                          by_cases e : j = k
                                          · rw [e]; exact hok
                                          · exact hj j (by omega)⟩) (by first | omega | (dsimp only; omega)) ⟨rfl, rfl, rfl, (by rw [hfs, if_neg (by rw [h16]; decide)]; rfl), rfl, trivial⟩ rfl rfl
                                      · have bh16 := h16
                                        repeat (first | replace h16 := yes h16 | replace h16 := no h16 | replace h16 := nyes h16 | replace h16 := nno h16)
                                        refine CW.skip ?_
                                        refine EX.norB ?_
                                        refine EX.seq ?_
                                        refine CW.region ?_
                                        refine OL.q (Y.move rfl) rfl ?_
                                        refine OL.q (Y.add1 rfl rfl rfl (by omega)) rfl ?_
                                        refine OL.q (Y.assign rfl) rfl ?_
                                        refine OL.nil ?_
                                        have hok : okSort S x k = true := by unfold okSort; rw [getD_at hp, ofAt_is ho]; exact decide_eq_true (by omega)
                                        have hfs := filt_snoc (S := S) hp
                                        exact EX.next (k + 1) [0] (show k + 1 ≤ x.n ∧ ∀ j, j < k + 1 → okSort S x j = true from ⟨by omega, fun j h => by
                                          by_cases e : j = k
                                          · rw [e]; exact hok
                                          · exact hj j (by omega)⟩) (by first | omega | (dsimp only; omega)) ⟨rfl, rfl, rfl, (by rw [hfs, if_pos h16]; rfl), rfl, trivial⟩ rfl rfl
                          · have bh10 := h10
                            repeat (first | replace h10 := yes h10 | replace h10 := no h10 | replace h10 := nyes h10 | replace h10 := nno h10)
                            have hkn : k = x.n := by omega
                            subst hkn
                            rw [List.take_of_length_le (by omega)]
                            have hh3 : errs S x 3 = 0 := by show sortE S x = 0; rw [sortE_eq, all_range.2 (fun j h => hj j (by omega))]; rfl
                            refine CW.exit ?_
                            refine EX.exitT ?_
                            refine EX.exitT ?_
                            refine EX.exitB ?_
                            refine EX.seq ?_
                            refine CW.seq ?_
                            refine CW.seq ?_
                            refine CW.region ?_
                            refine OL.cutAt (α := Bool) 7 ⟨(fun zp => zp = decide (x.op = 19 ∧ 1 < freeK S x.kids)), (fun zp => [(0, Value.pointer (some { block := r, off := 0 })), (3, Value.pointer (some { block := b3, off := 0 })), (297, .bool zp)]), (fun zp => [blk b3 (termCells x) 30])⟩ ?_ ?_
                            ·
                              refine OL.q (Y.field L30_0 rfl) rfl ?_
                              refine OL.q (Y.load T3 rfl (Ent.at 0 rfl (Up.cellIs _ _ _) (blk_cell rfl))) rfl ?_
                              refine OL.q (Y.eql rfl rfl) rfl ?_
                              refine OL.q (Y.move rfl) rfl ?_
                              refine OL.guard (s := 294) rfl (fun g40_3 => ?_) (fun g40_3 => ?_)
                              · have ng40_3 := g40_3
                                repeat (first | replace ng40_3 := yes ng40_3 | replace ng40_3 := no ng40_3 | replace ng40_3 := nyes ng40_3 | replace ng40_3 := nno ng40_3)
                                refine OL.on g40_3 rfl rfl ?_
                                refine OL.q (Y.move rfl) rfl ?_
                                refine OL.on g40_3 rfl rfl ?_
                                refine OL.q (Y.gtr rfl rfl) rfl ?_
                                refine OL.q (Y.pickT rfl g40_3 rfl) rfl ?_
                                refine OL.nil ?_
                                exact EX.meet _ [0] (by dsimp only; first | exact (decide_eq_true (by omega)).symm | exact (decide_eq_false (by omega)).symm | exact decide_eq_decide.2 (by omega) | (simp [*]; done) | (rw [Bool.eq_iff_iff]; simp [*]; done) | (rw [Bool.eq_iff_iff]; simp; omega) | (rw [Bool.eq_iff_iff]; simp [*]; omega)) ⟨rfl, rfl, rfl, trivial⟩ rfl rfl
                              · have ng40_3 := g40_3
                                repeat (first | replace ng40_3 := yes ng40_3 | replace ng40_3 := no ng40_3 | replace ng40_3 := nyes ng40_3 | replace ng40_3 := nno ng40_3)
                                refine OL.no g40_3 rfl rfl rfl ?_
                                refine OL.no g40_3 rfl rfl rfl ?_
                                refine OL.q (Y.pickF rfl g40_3 rfl) rfl ?_
                                refine OL.nil ?_
                                exact EX.meet _ [0] (by dsimp only; first | exact (decide_eq_true (by omega)).symm | exact (decide_eq_false (by omega)).symm | exact decide_eq_decide.2 (by omega) | (simp [*]; done) | (rw [Bool.eq_iff_iff]; simp [*]; done) | (rw [Bool.eq_iff_iff]; simp; omega) | (rw [Bool.eq_iff_iff]; simp [*]; omega)) ⟨rfl, rfl, rfl, trivial⟩ rfl rfl
                            ·
                              rintro zp hzp
                              dsimp only at hzp ⊢
                              refine OL.nil ?_
                              refine EX.seq ?_
                              refine CW.cond rfl (fun h17 => ?_) (fun h17 => ?_)
                              · have bh17 := h17
                                repeat (first | replace h17 := yes h17 | replace h17 := no h17 | replace h17 := nyes h17 | replace h17 := nno h17)
                                rw [h17] at hzp
                                have hzq := of_decide_eq_true hzp.symm
                                refine CW.seq ?_
                                refine CW.region ?_
                                refine OL.q (Y.assign rfl) rfl ?_
                                refine OL.q (Y.assign rfl) rfl ?_
                                refine OL.nil ?_
                                refine EX.seq ?_
                                refine CW.ret ?_
                                refine EX.retT ?_
                                have he : errs S x 4 = 16 := by show prodE S x = 16; unfold prodE; rw [if_pos hzq]
                                exact EX.fin2 [] rfl rfl rfl rfl ⟨by rw [wrongE_at (k := 4) (by decide) (errs4 hh0 hh1 hh2 hh3) (by rw [he]; decide), he]; rfl, rfl⟩
                              · have bh17 := h17
                                repeat (first | replace h17 := yes h17 | replace h17 := no h17 | replace h17 := nyes h17 | replace h17 := nno h17)
                                rw [h17] at hzp
                                have hzq := of_decide_eq_false hzp.symm
                                have hw0 : wrongE S x = 0 := wrongE_none (errs5 hh0 hh1 hh2 hh3 (by show prodE S x = 0; unfold prodE; rw [if_neg hzq]))
                                refine CW.skip ?_
                                refine EX.seq ?_
                                refine CW.seq ?_
                                refine CW.region ?_
                                refine OL.q (Y.assign rfl) rfl ?_
                                refine OL.nil ?_
                                refine EX.seq ?_
                                refine CW.cut (α := Int) ⟨(fun s => s = if x.op = 4 ∨ 17 ≤ x.op then 1 else 0), (fun s => [(0, Value.pointer (some { block := r, off := 0 })), (3, Value.pointer (some { block := b3, off := 0 })), (12, .int .i64 s)]), (fun s => [blk b3 (termCells x) 30])⟩ ?_ ?_
                                ·
                                  refine CW.seq ?_
                                  refine CW.region ?_
                                  refine OL.cutAt (α := Bool) 8 ⟨(fun zs => zs = decide (x.op = 4 ∨ 17 ≤ x.op)), (fun zs => [(0, Value.pointer (some { block := r, off := 0 })), (3, Value.pointer (some { block := b3, off := 0 })), (12, Value.int IntKind.i64 0), (305, .bool zs)]), (fun zs => [blk b3 (termCells x) 30])⟩ ?_ ?_
                                  ·
                                    refine OL.q (Y.field L30_0 rfl) rfl ?_
                                    refine OL.q (Y.load T3 rfl (Ent.at 0 rfl (Up.cellIs _ _ _) (blk_cell rfl))) rfl ?_
                                    refine OL.q (Y.eql rfl rfl) rfl ?_
                                    refine OL.q (Y.move rfl) rfl ?_
                                    refine OL.guard (s := 301) rfl (fun g43_3 => ?_) (fun g43_3 => ?_)
                                    · have ng43_3 := g43_3
                                      repeat (first | replace ng43_3 := yes ng43_3 | replace ng43_3 := no ng43_3 | replace ng43_3 := nyes ng43_3 | replace ng43_3 := nno ng43_3)
                                      refine OL.no g43_3 rfl rfl rfl ?_
                                      refine OL.no g43_3 rfl rfl rfl ?_
                                      refine OL.no g43_3 rfl rfl rfl ?_
                                      refine OL.q (Y.pickT rfl g43_3 rfl) rfl ?_
                                      refine OL.nil ?_
                                      exact EX.meet _ [0] (by dsimp only; first | exact (decide_eq_true (by omega)).symm | exact (decide_eq_false (by omega)).symm | exact decide_eq_decide.2 (by omega) | (simp [*]; done) | (rw [Bool.eq_iff_iff]; simp [*]; done) | (rw [Bool.eq_iff_iff]; simp; omega) | (rw [Bool.eq_iff_iff]; simp [*]; omega)) ⟨rfl, rfl, rfl, rfl, trivial⟩ rfl rfl
                                    · have ng43_3 := g43_3
                                      repeat (first | replace ng43_3 := yes ng43_3 | replace ng43_3 := no ng43_3 | replace ng43_3 := nyes ng43_3 | replace ng43_3 := nno ng43_3)
                                      refine OL.on g43_3 rfl rfl ?_
                                      refine OL.q (Y.field L30_0 rfl) rfl ?_
                                      refine OL.on g43_3 rfl rfl ?_
                                      refine OL.q (Y.load T3 rfl (Ent.at 0 rfl (Up.cellIs _ _ _) (blk_cell rfl))) rfl ?_
                                      refine OL.on g43_3 rfl rfl ?_
                                      refine OL.q (Y.geq rfl rfl) rfl ?_
                                      refine OL.q (Y.pickF rfl g43_3 rfl) rfl ?_
                                      refine OL.nil ?_
                                      exact EX.meet _ [0] (by dsimp only; first | exact (decide_eq_true (by omega)).symm | exact (decide_eq_false (by omega)).symm | exact decide_eq_decide.2 (by omega) | (simp [*]; done) | (rw [Bool.eq_iff_iff]; simp [*]; done) | (rw [Bool.eq_iff_iff]; simp; omega) | (rw [Bool.eq_iff_iff]; simp [*]; omega)) ⟨rfl, rfl, rfl, rfl, trivial⟩ rfl rfl
                                  ·
                                    rintro zs hzs
                                    dsimp only at hzs ⊢
                                    refine OL.nil ?_
                                    refine EX.seq ?_
                                    refine CW.cond rfl (fun h18 => ?_) (fun h18 => ?_)
                                    · have bh18 := h18
                                      repeat (first | replace h18 := yes h18 | replace h18 := no h18 | replace h18 := nyes h18 | replace h18 := nno h18)
                                      rw [h18] at hzs
                                      have hzt := of_decide_eq_true hzs.symm
                                      refine CW.region ?_
                                      refine OL.q (Y.assign rfl) rfl ?_
                                      refine OL.nil ?_
                                      exact EX.meet 1 [0] (by rw [if_pos hzt]) ⟨rfl, rfl, rfl, trivial⟩ rfl rfl
                                    · have bh18 := h18
                                      repeat (first | replace h18 := yes h18 | replace h18 := no h18 | replace h18 := nyes h18 | replace h18 := nno h18)
                                      rw [h18] at hzs
                                      have hzt := of_decide_eq_false hzs.symm
                                      refine CW.skip ?_
                                      exact EX.meet 0 [0] (by rw [if_neg hzt]) ⟨rfl, rfl, rfl, trivial⟩ rfl rfl
                                ·
                                  rintro s hs1
                                  dsimp only at hs1 ⊢
                                  refine CW.cut (α := Int) ⟨(fun s2 => s2 = if x.op = 3 then (funAt S x.fn).result else s), (fun s2 => [(0, Value.pointer (some { block := r, off := 0 })), (3, Value.pointer (some { block := b3, off := 0 })), (12, .int .i64 s2)]), (fun s2 => [blk b3 (termCells x) 30])⟩ ?_ ?_
                                  ·
                                    refine CW.seq ?_
                                    refine CW.region ?_
                                    refine OL.q (Y.field L30_0 rfl) rfl ?_
                                    refine OL.q (Y.load T3 rfl (Ent.at 0 rfl (Up.cellIs _ _ _) (blk_cell rfl))) rfl ?_
                                    refine OL.q (Y.eql rfl rfl) rfl ?_
                                    refine OL.nil ?_
                                    refine EX.seq ?_
                                    refine CW.cond rfl (fun h19 => ?_) (fun h19 => ?_)
                                    · have bh19 := h19
                                      repeat (first | replace h19 := yes h19 | replace h19 := no h19 | replace h19 := nyes h19 | replace h19 := nno h19)
                                      obtain ⟨m, hm, hml⟩ := bad_nat (h3f h19)
                                      obtain ⟨f, hfm⟩ : ∃ f, S.funs[m]? = some f := ⟨_, List.getElem?_eq_getElem (by rw [hS.fn]; exact hml)⟩
                                      obtain ⟨⟨hfr, hfc, hfl⟩, hfz⟩ := hS.funs f (mem_of hfm)
                                      have hfa : funAt S x.fn = f := by rw [hm]; exact funAt_is hfm
                                      refine CW.drawn [(true, 0), (true, 1), (true, 2), (true, 3), (true, 4), (true, 5), (true, 6), (true, 7), (true, 8)] [9] [0] mixed (by kernel_rfl) (by repeat (first | exact PanicOk.body | refine PanicOk.then ?_ | refine PanicOk.block ?_)) (by kernel_rfl) rfl rfl rfl rfl ?_
                                      refine OL.qt (Y.move rfl) rfl ?_
                                      refine OL.qt (Y.nilCheck rfl) rfl ?_
                                      refine OL.qt (Y.field L62_1 rfl) rfl ?_
                                      refine OL.qt (Y.load T55 rfl (Ent.via hF (Up.cellIs _ _ _) (Ent.at 0 rfl (Up.cellIs _ _ _) (blk_cell rfl)))) rfl ?_
                                      refine OL.qt (Y.field L30_1 rfl) rfl ?_
                                      refine OL.qt (Y.load T3 rfl (Ent.at 0 rfl (Up.cellIs _ _ _) (blk_cell rfl))) rfl ?_
                                      refine OL.qt (Y.index (k := m) Tryd.underlying55 C38 rfl rfl (Ent.via hF (Up.rd _ _ _ _) (Ent.at 2 rfl (Up.rd _ _ _ _) row_rd)) hm hml) rfl ?_
                                      refine OL.qt (Y.field L38_2 rfl) rfl ?_
                                      refine OL.qt (Y.load T3 rfl (cellsIs_at (rd_at (Ent.via hF (Up.rd _ _ _ _) (Ent.at 2 rfl (Up.rd _ _ _ _) row_rd)) (mget funCells hfm)) rfl)) rfl ?_
                                      refine OL.nil ?_
                                      refine EX.tail ?_
                                      refine OL.q (Y.assign rfl) rfl ?_
                                      refine OL.nil ?_
                                      exact EX.meet _ [0] (by rw [if_pos h19, hfa]) ⟨rfl, rfl, rfl, trivial⟩ rfl rfl
                                    · have bh19 := h19
                                      repeat (first | replace h19 := yes h19 | replace h19 := no h19 | replace h19 := nyes h19 | replace h19 := nno h19)
                                      refine CW.skip ?_
                                      exact EX.meet _ [0] (by rw [if_neg h19]) ⟨rfl, rfl, rfl, trivial⟩ rfl rfl
                                  ·
                                    rintro s2 hs2
                                    dsimp only at hs2 ⊢
                                    refine CW.cut (α := Int) ⟨(fun s3 => s3 = resE S x), (fun s3 => [(12, .int .i64 s3)]), (fun s3 => [blk b3 (termCells x) 30])⟩ ?_ ?_
                                    ·
                                      refine CW.seq ?_
                                      refine CW.region ?_
                                      refine OL.q (Y.field L30_0 rfl) rfl ?_
                                      refine OL.q (Y.load T3 rfl (Ent.at 0 rfl (Up.cellIs _ _ _) (blk_cell rfl))) rfl ?_
                                      refine OL.q (Y.eql rfl rfl) rfl ?_
                                      refine OL.nil ?_
                                      refine EX.seq ?_
                                      refine CW.cond rfl (fun h20 => ?_) (fun h20 => ?_)
                                      · have bh20 := h20
                                        repeat (first | replace h20 := yes h20 | replace h20 := no h20 | replace h20 := nyes h20 | replace h20 := nno h20)
                                        have hkb : ∀ q ∈ x.kids, bad v.tn q = false := fun q hq => by have h9 := kids_ok hh1 q hq; rwa [hS.tn] at h9
                                        have hct2 := hct
                                        rw [h20] at hct2
                                        have hcn := right_ite hct2
                                        obtain ⟨z2, hp2⟩ : ∃ p, x.kids[1]? = some p := ⟨_, List.getElem?_eq_getElem (by omega)⟩
                                        obtain ⟨m2, hm2, hml2⟩ := bad_nat (hkb z2 (mem_of hp2))
                                        obtain ⟨o2, ho2⟩ : ∃ z, S.of[m2]? = some z := ⟨_, List.getElem?_eq_getElem (by rw [hS.on]; exact hml2)⟩
                                        refine CW.drawn [(true, 0), (true, 1), (true, 2), (true, 3), (true, 4), (true, 5), (true, 6), (true, 7), (true, 8), (true, 9)] [10] [0] mixed (by kernel_rfl) (by repeat (first | exact PanicOk.body | refine PanicOk.then ?_ | refine PanicOk.block ?_)) (by kernel_rfl) rfl rfl rfl rfl ?_
                                        refine OL.qt (Y.move rfl) rfl ?_
                                        refine OL.qt (Y.nilCheck rfl) rfl ?_
                                        refine OL.qt (Y.field L62_3 rfl) rfl ?_
                                        refine OL.qt (Y.load T28 rfl (Ent.via hF (Up.cellIs _ _ _) (Ent.at 0 rfl (Up.cellIs _ _ _) (blk_cell rfl)))) rfl ?_
                                        refine OL.qt (Y.field L30_2 rfl) rfl ?_
                                        refine OL.qt (Y.load T28 rfl (Ent.at 0 rfl (Up.cellIs _ _ _) (blk_cell rfl))) rfl ?_
                                        refine OL.qt (Y.index (k := 1) Tryd.underlying28 C3 rfl rfl (Ent.frame (Up.rd _ _ _ _) (fun h hs => imm_ent (Up.rd _ _ _ _) hxr h (hI h hs))) rfl (by omega)) rfl ?_
                                        refine OL.qt (Y.load T3 rfl (cellsIs_at0 (rd_at (Ent.frame (Up.rd _ _ _ _) (fun h hs => imm_ent (Up.rd _ _ _ _) hxr h (hI h hs))) (mget intCells hp2)) rfl)) rfl ?_
                                        refine OL.qt (Y.index (k := m2) Tryd.underlying28 C3 rfl rfl (Ent.via hF (Up.rd _ _ _ _) (Ent.at 4 rfl (Up.rd _ _ _ _) row_rd)) hm2 (by omega)) rfl ?_
                                        refine OL.qt (Y.load T3 rfl (cellsIs_at0 (rd_at (Ent.via hF (Up.rd _ _ _ _) (Ent.at 4 rfl (Up.rd _ _ _ _) row_rd)) (mget intCells ho2)) rfl)) rfl ?_
                                        refine OL.nil ?_
                                        refine EX.tail ?_
                                        refine OL.q (Y.assign rfl) rfl ?_
                                        refine OL.nil ?_
                                        exact EX.meet _ [0] (by unfold resE; rw [if_neg (by omega), if_pos h20, getD_at hp2, hm2, ofAt_is ho2]) ⟨rfl, trivial⟩ rfl rfl
                                      · have bh20 := h20
                                        repeat (first | replace h20 := yes h20 | replace h20 := no h20 | replace h20 := nyes h20 | replace h20 := nno h20)
                                        refine CW.skip ?_
                                        exact EX.meet _ [0] (by
                                          dsimp only
                                          rw [hs2, hs1]; unfold resE
                                          by_cases e3 : x.op = 3
                                          · rw [if_pos e3, if_pos e3]
                                          · rw [if_neg e3, if_neg e3, if_neg h20]
                                            by_cases e4 : x.op = 4 ∨ 17 ≤ x.op
                                            · rw [if_pos e4, if_pos (by omega)]
                                            · rw [if_neg e4, if_neg (by omega)]) ⟨rfl, trivial⟩ rfl rfl
                                    ·
                                      rintro s3 hs3
                                      dsimp only at hs3 ⊢
                                      refine CW.seq ?_
                                      refine CW.region ?_
                                      refine OL.q (Y.move rfl) rfl ?_
                                      refine OL.q (Y.assign rfl) rfl ?_
                                      refine OL.q (Y.assign rfl) rfl ?_
                                      refine OL.nil ?_
                                      refine EX.seq ?_
                                      refine CW.ret ?_
                                      exact EX.fin2 [] rfl rfl rfl rfl ⟨by rw [hw0, hs3]; rfl, rfl⟩
end Go.Proofs.YtmlnnepgigieaaaDoor
