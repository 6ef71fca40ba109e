/- The statement DagSame. -/
import Derived.Test.YtmlnnepgigieaaaDoorDlawC
namespace Go.Proofs.YtmlnnepgigieaaaDoor
open Go.Sx




def sumTo (f : Nat → Nat) : Nat → Nat
  | 0 => 0
  | n + 1 => sumTo f n + f n
theorem sumTo_add (f g : Nat → Nat) : ∀ n, sumTo (fun i => f i + g i) n = sumTo f n + sumTo g n
  | 0 => rfl
  | n + 1 => by simp only [sumTo, sumTo_add f g n]; omega
theorem sumTo_zero : ∀ n, sumTo (fun _ => 0) n = 0
  | 0 => rfl
  | n + 1 => by simp [sumTo, sumTo_zero n]
theorem sumTo_one {j : Nat} : ∀ n, sumTo (fun i => if j = i then 1 else 0) n = if j < n then 1 else 0
  | 0 => rfl
  | n + 1 => by
    simp only [sumTo, sumTo_one n]
    (repeat' split) <;> omega
theorem sumTo_le {f : Nat → Nat} {k : Nat} : ∀ {n}, k ≤ n → sumTo f k ≤ sumTo f n
  | 0, h => by
    have : k = 0 := by omega
    rw [this]; exact Nat.le_refl _
  | n + 1, h => by
    by_cases e : k = n + 1
    · rw [e]; exact Nat.le_refl _
    · have := sumTo_le (f := f) (n := n) (k := k) (by omega)
      simp only [sumTo]; omega
theorem sumTo_buckets {n : Nat} (hn : 0 < n) (hs : List Int) : ∀ k, k ≤ hs.length → sumTo (fun i => (bucketOf n (hs.take k) i).length) n = k
  | 0, _ => by simp [bucket_nil, sumTo_zero]
  | k + 1, hk => by
    have ih := sumTo_buckets hn hs k (by omega)
    have h1 : hs[k]? = some hs[k] := List.getElem?_eq_getElem (by omega)
    have e : (fun i => (bucketOf n (hs.take (k + 1)) i).length) = fun i => (bucketOf n (hs.take k) i).length + (if hix hs[k] n = i then 1 else 0) := by
      funext i
      rw [take_snoc h1, bucket_snoc, List.length_append]
      split <;> rfl
    rw [e, sumTo_add, ih, sumTo_one, if_pos (hix_lt hn)]
def blen (A : ArP) (i : Nat) : Nat := (bucketOf (nb A.terms.length) (A.terms.map fun x => hashT x.c) i).length
theorem blen_all (A : ArP) : sumTo (blen A) (nb A.terms.length) = A.terms.length := by
  have := sumTo_buckets (nb_ge A.terms.length).2 (A.terms.map fun x => hashT x.c) A.terms.length (by simp)
  rw [List.take_of_length_le (by simp)] at this
  exact this
theorem blen_at {A : ArP} {k : Nat} {l : List Int} (h : A.bucks[k]? = some l) : l.length = blen A k := by
  have hk : k < nb A.terms.length := by have := (List.getElem?_eq_some_iff.1 h).1; rwa [bucks_num] at this
  unfold ArP.bucks at h
  rw [List.getElem?_map, List.getElem?_range hk] at h
  cases h; rfl
theorem term_err {A : ArP} {x : TermP} (h : (A.term x).2.1 ≠ 0) : (A.term x).2.2 = A := by
  unfold ArP.term at h ⊢
  split
  · rfl
  · rename_i h0
    rw [if_neg h0] at h
    split
    · rfl
    · rename_i hf
      simp only [hf] at h
      split
      · rfl
      · rename_i h1
        rw [if_neg h1] at h
        exact absurd rfl h


set_option maxRecDepth 10000 in
set_option maxHeartbeats 16000000 in
theorem dagSame_any (a : Option Addr) (n c : Nat) (l : List ActC) (M : PH) (hl : rd a n 8 (l.map actCells) M) (hln : l.length = n) (ho : ∀ x ∈ l, x.Ok M) (htab : tabP M) :
    FS Tryd.prog 5 [.slice a n c] (imm M) [] (fun q H => q = .bool true ∧ H = []) := by
  refine FS.intro (N := 155) Tryd.func5 rfl rfl rfl (fun F w0 hF => ?_)
  refine CW.seq ?_
  refine CW.region ?_
  refine OL.q (Y.assign rfl) rfl ?_
  refine OL.nil ?_
  refine EX.seq ?_
  refine CW.seq ?_
  refine CW.seq ?_
  refine CW.region ?_
  refine OL.call [] (speaks_any) Tryd.call13 rfl rfl rfl rfl (Ent.frame Up.tabP (fun h hs => imm_ent Up.tabP htab h (hF h hs))) rfl ?_
  rintro _ _ ⟨rfl, rfl⟩
  refine ⟨rfl, rfl, ?_⟩
  refine OL.q (Y.not rfl) rfl ?_
  refine OL.nil ?_
  refine EX.seq ?_
  refine CW.cond rfl (fun h0 => ?_) (fun h0 => ?_)
  · repeat (first | replace h0 := yes h0 | replace h0 := no h0 | replace h0 := nyes h0 | replace h0 := nno h0)
    exfalso
    first | omega | contradiction | exact absurd rfl h0 | exact absurd h0 (by simp) | exact absurd h0 (by decide)
  repeat (first | replace h0 := yes h0 | replace h0 := no h0 | replace h0 := nyes h0 | replace h0 := nno h0)
  refine CW.skip ?_
  refine EX.seq ?_
  refine CW.seq ?_
  refine CW.seq ?_
  refine CW.region ?_
  refine OL.q (Y.move rfl) rfl ?_
  refine OL.call [] (great_any a n c l hln (lens ho)) Tryd.call14 rfl rfl rfl rfl (Ent.frame (Up.rd _ _ _ _) (fun h hs => imm_ent (Up.rd _ _ _ _) hl h (hF h hs))) rfl ?_
  rintro _ _ ⟨rfl, rfl⟩
  refine ⟨rfl, rfl, ?_⟩
  refine OL.nil ?_
  refine EX.seq ?_
  refine CW.cond rfl (fun h1 => ?_) (fun h1 => ?_)
  · have bh1 := h1
    repeat (first | replace h1 := yes h1 | replace h1 := no h1 | replace h1 := nyes h1 | replace h1 := nno h1)
    refine CW.seq ?_
    refine CW.region ?_
    refine OL.q (Y.assign rfl) rfl ?_
    refine OL.nil ?_
    refine EX.seq ?_
    refine CW.ret ?_
    refine EX.retT ?_
    exact EX.fin1 [] rfl rfl rfl ⟨rfl, rfl⟩
  · have bh1 := h1
    repeat (first | replace h1 := yes h1 | replace h1 := no h1 | replace h1 := nyes h1 | replace h1 := nno h1)
    have hg : greatP (l.map ActC.q) = false := h1
    have hl80 := small_len hg
    refine CW.skip ?_
    refine EX.seq ?_
    refine CW.seq ?_
    refine CW.region ?_
    refine OL.call [] (New_w 500) Tryd.call15 rfl rfl rfl rfl (Ent.frame Up.tabP (fun h hs => imm_ent Up.tabP htab h (hF h hs))) rfl ?_
    rintro _ _ ⟨t1, rfl, rfl⟩
    refine ⟨rfl, rfl, ?_⟩
    refine OL.call [] (New_w 500) Tryd.call15 rfl rfl rfl rfl (Ent.frame Up.tabP (fun h hs => imm_ent Up.tabP htab h (hF h hs))) rfl ?_
    rintro _ _ ⟨t2, rfl, rfl⟩
    refine ⟨rfl, rfl, ?_⟩
    refine OL.q (Y.assign rfl) rfl ?_
    refine OL.q (Y.assign rfl) rfl ?_
    refine OL.nil ?_
    refine EX.seq ?_
    refine CW.seq ?_
    refine CW.seq ?_
    refine CW.region ?_
    refine OL.q (Y.move rfl) rfl ?_
    refine OL.q (Y.lenSl Tryd.underlying22 rfl) rfl ?_
    refine OL.q (Y.move rfl) rfl ?_
    refine OL.nil ?_
    refine EX.seq ?_
    refine CW.block ?_
    refine CW.loop (α := Nat) ⟨(fun k => k ≤ n), (fun k => [(3, Value.pointer (some { block := t1, off := 0 })), (4, Value.pointer (some { block := t2, off := 0 })), (25, Value.slice a n c), (26, Value.int IntKind.i64 ↑n), (27, .int .i64 k)]), (fun k => [arena t1 (laid 500 ((l.map ActC.q).take k)), arena t2 (laid 500 ((l.map ActC.q).take k))])⟩
      (fun k => (n - k : Nat)) 0 [0, 1] (Nat.zero_le _) ⟨rfl, rfl, rfl, rfl, rfl, trivial⟩ rfl rfl ?_
    rintro k hk
    dsimp only at hk ⊢
    refine CW.seq ?_
    refine CW.region ?_
    refine OL.q (Y.lss rfl rfl) rfl ?_
    refine OL.nil ?_
    refine EX.seq ?_
    refine CW.seq ?_
    refine CW.cond rfl (fun h2 => ?_) (fun h2 => ?_)
    · have bh2 := h2
      repeat (first | replace h2 := yes h2 | replace h2 := no h2 | replace h2 := nyes h2 | replace h2 := nno h2)
      obtain ⟨x, hp⟩ : ∃ p, l[k]? = some p := ⟨_, List.getElem?_eq_getElem (by omega)⟩
      obtain ⟨⟨hxr, hxc, hxl⟩, ⟨hyr, hyc, hyl⟩⟩ := ho x (mem_of hp)
      obtain ⟨_, hs1, hs2, hs3, hs4⟩ := small_act hg hp
      obtain ⟨hbd1, hbd2⟩ := laid_bd 500 ((l.map ActC.q).take k)
      simp only [List.length_take, List.length_map] at hbd1 hbd2
      generalize hA : (laid 500 ((l.map ActC.q).take k)) = A at hbd1 hbd2 ⊢
      refine CW.skip ?_
      refine EX.seq ?_
      refine CW.seq ?_
      refine CW.block ?_
      refine CW.seq ?_
      refine CW.region ?_
      first | refine OL.q (Y.index Tryd.underlying22 C32 rfl rfl (Ent.at 0 rfl (Up.rd _ _ _ _) row_rd) rfl (by omega)) rfl ?_ | refine OL.q (Y.index Tryd.underlying22 C32 rfl rfl (Ent.at 1 rfl (Up.rd _ _ _ _) row_rd) rfl (by omega)) rfl ?_ | refine OL.q (Y.index Tryd.underlying22 C32 rfl rfl (Ent.at 2 rfl (Up.rd _ _ _ _) row_rd) rfl (by omega)) rfl ?_ | refine OL.q (Y.index Tryd.underlying22 C32 rfl rfl (Ent.at 3 rfl (Up.rd _ _ _ _) row_rd) rfl (by omega)) rfl ?_ | refine OL.q (Y.index Tryd.underlying22 C32 rfl rfl (Ent.at 4 rfl (Up.rd _ _ _ _) row_rd) rfl (by omega)) rfl ?_ | refine OL.q (Y.index Tryd.underlying22 C32 rfl rfl (Ent.at 5 rfl (Up.rd _ _ _ _) row_rd) rfl (by omega)) rfl ?_ | refine OL.q (Y.index Tryd.underlying22 C32 rfl rfl (Ent.at 6 rfl (Up.rd _ _ _ _) row_rd) rfl (by omega)) rfl ?_ | refine OL.q (Y.index Tryd.underlying22 C32 rfl rfl (Ent.at 7 rfl (Up.rd _ _ _ _) row_rd) rfl (by omega)) rfl ?_ | refine OL.q (Y.index Tryd.underlying22 C32 rfl rfl (Ent.frame (Up.rd _ _ _ _) (fun h hs => imm_ent (Up.rd _ _ _ _) (by assumption) h (hF h hs))) rfl (by omega)) rfl ?_
      first | refine OL.q (Y.loadN S32 rfl rfl (Ent.at 0 rfl (Up.cellsIs _ _ _) blk_cells)) rfl ?_ | refine OL.q (Y.loadN S32 rfl rfl (Ent.at 1 rfl (Up.cellsIs _ _ _) blk_cells)) rfl ?_ | refine OL.q (Y.loadN S32 rfl rfl (Ent.at 2 rfl (Up.cellsIs _ _ _) blk_cells)) rfl ?_ | refine OL.q (Y.loadN S32 rfl rfl (Ent.at 3 rfl (Up.cellsIs _ _ _) blk_cells)) rfl ?_ | refine OL.q (Y.loadN S32 rfl rfl (Ent.at 4 rfl (Up.cellsIs _ _ _) blk_cells)) rfl ?_ | refine OL.q (Y.loadN S32 rfl rfl (Ent.at 5 rfl (Up.cellsIs _ _ _) blk_cells)) rfl ?_ | refine OL.q (Y.loadN S32 rfl rfl (Ent.at 6 rfl (Up.cellsIs _ _ _) blk_cells)) rfl ?_ | refine OL.q (Y.loadN S32 rfl rfl (Ent.at 7 rfl (Up.cellsIs _ _ _) blk_cells)) rfl ?_ | refine OL.q (Y.loadN S32 rfl rfl (rd_at (Ent.at 0 rfl (Up.rd _ _ _ _) row_rd) (mget _ (by assumption)))) rfl ?_ | refine OL.q (Y.loadN S32 rfl rfl (rd_at (Ent.at 1 rfl (Up.rd _ _ _ _) row_rd) (mget _ (by assumption)))) rfl ?_ | refine OL.q (Y.loadN S32 rfl rfl (rd_at (Ent.at 2 rfl (Up.rd _ _ _ _) row_rd) (mget _ (by assumption)))) rfl ?_ | refine OL.q (Y.loadN S32 rfl rfl (rd_at (Ent.at 3 rfl (Up.rd _ _ _ _) row_rd) (mget _ (by assumption)))) rfl ?_ | refine OL.q (Y.loadN S32 rfl rfl (rd_at (Ent.at 4 rfl (Up.rd _ _ _ _) row_rd) (mget _ (by assumption)))) rfl ?_ | refine OL.q (Y.loadN S32 rfl rfl (rd_at (Ent.at 5 rfl (Up.rd _ _ _ _) row_rd) (mget _ (by assumption)))) rfl ?_ | refine OL.q (Y.loadN S32 rfl rfl (rd_at (Ent.at 6 rfl (Up.rd _ _ _ _) row_rd) (mget _ (by assumption)))) rfl ?_ | refine OL.q (Y.loadN S32 rfl rfl (rd_at (Ent.at 7 rfl (Up.rd _ _ _ _) row_rd) (mget _ (by assumption)))) rfl ?_ | refine OL.q (Y.loadN S32 rfl rfl (rd_at (Ent.frame (Up.rd _ _ _ _) (fun h hs => imm_ent (Up.rd _ _ _ _) (by assumption) h (hF h hs))) (mget _ (by assumption)))) rfl ?_
      refine OL.alloc C32 rfl (fun b6 => ⟨rfl, rfl, ?_⟩)
      first | refine OL.storeAll 0 rfl C32 rfl rfl rfl rfl rfl rfl ⟨rfl, rfl, ?_⟩ | refine OL.storeAll 1 rfl C32 rfl rfl rfl rfl rfl rfl ⟨rfl, rfl, ?_⟩ | refine OL.storeAll 2 rfl C32 rfl rfl rfl rfl rfl rfl ⟨rfl, rfl, ?_⟩ | refine OL.storeAll 3 rfl C32 rfl rfl rfl rfl rfl rfl ⟨rfl, rfl, ?_⟩ | refine OL.storeAll 4 rfl C32 rfl rfl rfl rfl rfl rfl ⟨rfl, rfl, ?_⟩ | refine OL.storeAll 5 rfl C32 rfl rfl rfl rfl rfl rfl ⟨rfl, rfl, ?_⟩ | refine OL.storeAll 6 rfl C32 rfl rfl rfl rfl rfl rfl ⟨rfl, rfl, ?_⟩ | refine OL.storeAll 7 rfl C32 rfl rfl rfl rfl rfl rfl ⟨rfl, rfl, ?_⟩
      refine OL.nil ?_
      refine EX.seq ?_
      refine CW.seq ?_
      refine CW.region ?_
      refine OL.q (Y.field L32_0 rfl) rfl ?_
      first | refine OL.q (Y.load T3 rfl (Ent.at 0 rfl (Up.cellIs _ _ _) (blk_cell rfl))) rfl ?_ | refine OL.q (Y.load T3 rfl (Ent.at 1 rfl (Up.cellIs _ _ _) (blk_cell rfl))) rfl ?_ | refine OL.q (Y.load T3 rfl (Ent.at 2 rfl (Up.cellIs _ _ _) (blk_cell rfl))) rfl ?_ | refine OL.q (Y.load T3 rfl (Ent.at 3 rfl (Up.cellIs _ _ _) (blk_cell rfl))) rfl ?_ | refine OL.q (Y.load T3 rfl (Ent.at 4 rfl (Up.cellIs _ _ _) (blk_cell rfl))) rfl ?_ | refine OL.q (Y.load T3 rfl (Ent.at 5 rfl (Up.cellIs _ _ _) (blk_cell rfl))) rfl ?_ | refine OL.q (Y.load T3 rfl (Ent.at 6 rfl (Up.cellIs _ _ _) (blk_cell rfl))) rfl ?_ | refine OL.q (Y.load T3 rfl (Ent.at 7 rfl (Up.cellIs _ _ _) (blk_cell rfl))) rfl ?_ | refine OL.q (Y.load T3 rfl (cellsIs_at0 (rd_at (Ent.at 0 rfl (Up.rd _ _ _ _) row_rd) (mget _ (by assumption))) rfl)) rfl ?_ | refine OL.q (Y.load T3 rfl (cellsIs_at (rd_at (Ent.at 0 rfl (Up.rd _ _ _ _) row_rd) (mget _ (by assumption))) rfl)) rfl ?_ | refine OL.q (Y.load T3 rfl (cellsIs_at0 (rd_at (Ent.at 1 rfl (Up.rd _ _ _ _) row_rd) (mget _ (by assumption))) rfl)) rfl ?_ | refine OL.q (Y.load T3 rfl (cellsIs_at (rd_at (Ent.at 1 rfl (Up.rd _ _ _ _) row_rd) (mget _ (by assumption))) rfl)) rfl ?_ | refine OL.q (Y.load T3 rfl (cellsIs_at0 (rd_at (Ent.at 2 rfl (Up.rd _ _ _ _) row_rd) (mget _ (by assumption))) rfl)) rfl ?_ | refine OL.q (Y.load T3 rfl (cellsIs_at (rd_at (Ent.at 2 rfl (Up.rd _ _ _ _) row_rd) (mget _ (by assumption))) rfl)) rfl ?_ | refine OL.q (Y.load T3 rfl (cellsIs_at0 (rd_at (Ent.at 3 rfl (Up.rd _ _ _ _) row_rd) (mget _ (by assumption))) rfl)) rfl ?_ | refine OL.q (Y.load T3 rfl (cellsIs_at (rd_at (Ent.at 3 rfl (Up.rd _ _ _ _) row_rd) (mget _ (by assumption))) rfl)) rfl ?_ | refine OL.q (Y.load T3 rfl (cellsIs_at0 (rd_at (Ent.at 4 rfl (Up.rd _ _ _ _) row_rd) (mget _ (by assumption))) rfl)) rfl ?_ | refine OL.q (Y.load T3 rfl (cellsIs_at (rd_at (Ent.at 4 rfl (Up.rd _ _ _ _) row_rd) (mget _ (by assumption))) rfl)) rfl ?_ | refine OL.q (Y.load T3 rfl (cellsIs_at0 (rd_at (Ent.at 5 rfl (Up.rd _ _ _ _) row_rd) (mget _ (by assumption))) rfl)) rfl ?_ | refine OL.q (Y.load T3 rfl (cellsIs_at (rd_at (Ent.at 5 rfl (Up.rd _ _ _ _) row_rd) (mget _ (by assumption))) rfl)) rfl ?_ | refine OL.q (Y.load T3 rfl (cellsIs_at0 (rd_at (Ent.at 6 rfl (Up.rd _ _ _ _) row_rd) (mget _ (by assumption))) rfl)) rfl ?_ | refine OL.q (Y.load T3 rfl (cellsIs_at (rd_at (Ent.at 6 rfl (Up.rd _ _ _ _) row_rd) (mget _ (by assumption))) rfl)) rfl ?_ | refine OL.q (Y.load T3 rfl (cellsIs_at0 (rd_at (Ent.at 7 rfl (Up.rd _ _ _ _) row_rd) (mget _ (by assumption))) rfl)) rfl ?_ | refine OL.q (Y.load T3 rfl (cellsIs_at (rd_at (Ent.at 7 rfl (Up.rd _ _ _ _) row_rd) (mget _ (by assumption))) rfl)) rfl ?_ | refine OL.q (Y.load T3 rfl (cellsIs_at0 (rd_at (Ent.frame (Up.rd _ _ _ _) (fun h hs => imm_ent (Up.rd _ _ _ _) (by assumption) h (hF h hs))) (mget _ (by assumption))) rfl)) rfl ?_ | refine OL.q (Y.load T3 rfl (cellsIs_at (rd_at (Ent.frame (Up.rd _ _ _ _) (fun h hs => imm_ent (Up.rd _ _ _ _) (by assumption) h (hF h hs))) (mget _ (by assumption))) rfl)) rfl ?_
      refine OL.nil ?_
      refine EX.seq ?_
      refine CW.block ?_
      refine CW.seq ?_
      refine CW.region ?_
      refine OL.q (Y.eql rfl rfl) rfl ?_
      refine OL.q (Y.assign rfl) rfl ?_
      refine OL.nil ?_
      refine EX.seq ?_
      refine CW.cond rfl (fun h3 => ?_) (fun h3 => ?_)
      · have bh3 := h3
        repeat (first | replace h3 := yes h3 | replace h3 := no h3 | replace h3 := nyes h3 | replace h3 := nno h3)
        refine CW.seq ?_
        refine CW.region ?_
        refine OL.q (Y.move rfl) rfl ?_
        refine OL.q (Y.field L32_1 rfl) rfl ?_
        first | refine OL.q (Y.load T9 rfl (Ent.at 0 rfl (Up.cellIs _ _ _) (blk_cell rfl))) rfl ?_ | refine OL.q (Y.load T9 rfl (Ent.at 1 rfl (Up.cellIs _ _ _) (blk_cell rfl))) rfl ?_ | refine OL.q (Y.load T9 rfl (Ent.at 2 rfl (Up.cellIs _ _ _) (blk_cell rfl))) rfl ?_ | refine OL.q (Y.load T9 rfl (Ent.at 3 rfl (Up.cellIs _ _ _) (blk_cell rfl))) rfl ?_ | refine OL.q (Y.load T9 rfl (Ent.at 4 rfl (Up.cellIs _ _ _) (blk_cell rfl))) rfl ?_ | refine OL.q (Y.load T9 rfl (Ent.at 5 rfl (Up.cellIs _ _ _) (blk_cell rfl))) rfl ?_ | refine OL.q (Y.load T9 rfl (Ent.at 6 rfl (Up.cellIs _ _ _) (blk_cell rfl))) rfl ?_ | refine OL.q (Y.load T9 rfl (Ent.at 7 rfl (Up.cellIs _ _ _) (blk_cell rfl))) rfl ?_ | refine OL.q (Y.load T9 rfl (cellsIs_at0 (rd_at (Ent.at 0 rfl (Up.rd _ _ _ _) row_rd) (mget _ (by assumption))) rfl)) rfl ?_ | refine OL.q (Y.load T9 rfl (cellsIs_at (rd_at (Ent.at 0 rfl (Up.rd _ _ _ _) row_rd) (mget _ (by assumption))) rfl)) rfl ?_ | refine OL.q (Y.load T9 rfl (cellsIs_at0 (rd_at (Ent.at 1 rfl (Up.rd _ _ _ _) row_rd) (mget _ (by assumption))) rfl)) rfl ?_ | refine OL.q (Y.load T9 rfl (cellsIs_at (rd_at (Ent.at 1 rfl (Up.rd _ _ _ _) row_rd) (mget _ (by assumption))) rfl)) rfl ?_ | refine OL.q (Y.load T9 rfl (cellsIs_at0 (rd_at (Ent.at 2 rfl (Up.rd _ _ _ _) row_rd) (mget _ (by assumption))) rfl)) rfl ?_ | refine OL.q (Y.load T9 rfl (cellsIs_at (rd_at (Ent.at 2 rfl (Up.rd _ _ _ _) row_rd) (mget _ (by assumption))) rfl)) rfl ?_ | refine OL.q (Y.load T9 rfl (cellsIs_at0 (rd_at (Ent.at 3 rfl (Up.rd _ _ _ _) row_rd) (mget _ (by assumption))) rfl)) rfl ?_ | refine OL.q (Y.load T9 rfl (cellsIs_at (rd_at (Ent.at 3 rfl (Up.rd _ _ _ _) row_rd) (mget _ (by assumption))) rfl)) rfl ?_ | refine OL.q (Y.load T9 rfl (cellsIs_at0 (rd_at (Ent.at 4 rfl (Up.rd _ _ _ _) row_rd) (mget _ (by assumption))) rfl)) rfl ?_ | refine OL.q (Y.load T9 rfl (cellsIs_at (rd_at (Ent.at 4 rfl (Up.rd _ _ _ _) row_rd) (mget _ (by assumption))) rfl)) rfl ?_ | refine OL.q (Y.load T9 rfl (cellsIs_at0 (rd_at (Ent.at 5 rfl (Up.rd _ _ _ _) row_rd) (mget _ (by assumption))) rfl)) rfl ?_ | refine OL.q (Y.load T9 rfl (cellsIs_at (rd_at (Ent.at 5 rfl (Up.rd _ _ _ _) row_rd) (mget _ (by assumption))) rfl)) rfl ?_ | refine OL.q (Y.load T9 rfl (cellsIs_at0 (rd_at (Ent.at 6 rfl (Up.rd _ _ _ _) row_rd) (mget _ (by assumption))) rfl)) rfl ?_ | refine OL.q (Y.load T9 rfl (cellsIs_at (rd_at (Ent.at 6 rfl (Up.rd _ _ _ _) row_rd) (mget _ (by assumption))) rfl)) rfl ?_ | refine OL.q (Y.load T9 rfl (cellsIs_at0 (rd_at (Ent.at 7 rfl (Up.rd _ _ _ _) row_rd) (mget _ (by assumption))) rfl)) rfl ?_ | refine OL.q (Y.load T9 rfl (cellsIs_at (rd_at (Ent.at 7 rfl (Up.rd _ _ _ _) row_rd) (mget _ (by assumption))) rfl)) rfl ?_ | refine OL.q (Y.load T9 rfl (cellsIs_at0 (rd_at (Ent.frame (Up.rd _ _ _ _) (fun h hs => imm_ent (Up.rd _ _ _ _) (by assumption) h (hF h hs))) (mget _ (by assumption))) rfl)) rfl ?_ | refine OL.q (Y.load T9 rfl (cellsIs_at (rd_at (Ent.frame (Up.rd _ _ _ _) (fun h hs => imm_ent (Up.rd _ _ _ _) (by assumption) h (hF h hs))) (mget _ (by assumption))) rfl)) rfl ?_
        refine OL.q (Y.field L32_2 rfl) rfl ?_
        first | refine OL.q (Y.load T28 rfl (Ent.at 0 rfl (Up.cellIs _ _ _) (blk_cell rfl))) rfl ?_ | refine OL.q (Y.load T28 rfl (Ent.at 1 rfl (Up.cellIs _ _ _) (blk_cell rfl))) rfl ?_ | refine OL.q (Y.load T28 rfl (Ent.at 2 rfl (Up.cellIs _ _ _) (blk_cell rfl))) rfl ?_ | refine OL.q (Y.load T28 rfl (Ent.at 3 rfl (Up.cellIs _ _ _) (blk_cell rfl))) rfl ?_ | refine OL.q (Y.load T28 rfl (Ent.at 4 rfl (Up.cellIs _ _ _) (blk_cell rfl))) rfl ?_ | refine OL.q (Y.load T28 rfl (Ent.at 5 rfl (Up.cellIs _ _ _) (blk_cell rfl))) rfl ?_ | refine OL.q (Y.load T28 rfl (Ent.at 6 rfl (Up.cellIs _ _ _) (blk_cell rfl))) rfl ?_ | refine OL.q (Y.load T28 rfl (Ent.at 7 rfl (Up.cellIs _ _ _) (blk_cell rfl))) rfl ?_ | refine OL.q (Y.load T28 rfl (cellsIs_at0 (rd_at (Ent.at 0 rfl (Up.rd _ _ _ _) row_rd) (mget _ (by assumption))) rfl)) rfl ?_ | refine OL.q (Y.load T28 rfl (cellsIs_at (rd_at (Ent.at 0 rfl (Up.rd _ _ _ _) row_rd) (mget _ (by assumption))) rfl)) rfl ?_ | refine OL.q (Y.load T28 rfl (cellsIs_at0 (rd_at (Ent.at 1 rfl (Up.rd _ _ _ _) row_rd) (mget _ (by assumption))) rfl)) rfl ?_ | refine OL.q (Y.load T28 rfl (cellsIs_at (rd_at (Ent.at 1 rfl (Up.rd _ _ _ _) row_rd) (mget _ (by assumption))) rfl)) rfl ?_ | refine OL.q (Y.load T28 rfl (cellsIs_at0 (rd_at (Ent.at 2 rfl (Up.rd _ _ _ _) row_rd) (mget _ (by assumption))) rfl)) rfl ?_ | refine OL.q (Y.load T28 rfl (cellsIs_at (rd_at (Ent.at 2 rfl (Up.rd _ _ _ _) row_rd) (mget _ (by assumption))) rfl)) rfl ?_ | refine OL.q (Y.load T28 rfl (cellsIs_at0 (rd_at (Ent.at 3 rfl (Up.rd _ _ _ _) row_rd) (mget _ (by assumption))) rfl)) rfl ?_ | refine OL.q (Y.load T28 rfl (cellsIs_at (rd_at (Ent.at 3 rfl (Up.rd _ _ _ _) row_rd) (mget _ (by assumption))) rfl)) rfl ?_ | refine OL.q (Y.load T28 rfl (cellsIs_at0 (rd_at (Ent.at 4 rfl (Up.rd _ _ _ _) row_rd) (mget _ (by assumption))) rfl)) rfl ?_ | refine OL.q (Y.load T28 rfl (cellsIs_at (rd_at (Ent.at 4 rfl (Up.rd _ _ _ _) row_rd) (mget _ (by assumption))) rfl)) rfl ?_ | refine OL.q (Y.load T28 rfl (cellsIs_at0 (rd_at (Ent.at 5 rfl (Up.rd _ _ _ _) row_rd) (mget _ (by assumption))) rfl)) rfl ?_ | refine OL.q (Y.load T28 rfl (cellsIs_at (rd_at (Ent.at 5 rfl (Up.rd _ _ _ _) row_rd) (mget _ (by assumption))) rfl)) rfl ?_ | refine OL.q (Y.load T28 rfl (cellsIs_at0 (rd_at (Ent.at 6 rfl (Up.rd _ _ _ _) row_rd) (mget _ (by assumption))) rfl)) rfl ?_ | refine OL.q (Y.load T28 rfl (cellsIs_at (rd_at (Ent.at 6 rfl (Up.rd _ _ _ _) row_rd) (mget _ (by assumption))) rfl)) rfl ?_ | refine OL.q (Y.load T28 rfl (cellsIs_at0 (rd_at (Ent.at 7 rfl (Up.rd _ _ _ _) row_rd) (mget _ (by assumption))) rfl)) rfl ?_ | refine OL.q (Y.load T28 rfl (cellsIs_at (rd_at (Ent.at 7 rfl (Up.rd _ _ _ _) row_rd) (mget _ (by assumption))) rfl)) rfl ?_ | refine OL.q (Y.load T28 rfl (cellsIs_at0 (rd_at (Ent.frame (Up.rd _ _ _ _) (fun h hs => imm_ent (Up.rd _ _ _ _) (by assumption) h (hF h hs))) (mget _ (by assumption))) rfl)) rfl ?_ | refine OL.q (Y.load T28 rfl (cellsIs_at (rd_at (Ent.frame (Up.rd _ _ _ _) (fun h hs => imm_ent (Up.rd _ _ _ _) (by assumption) h (hF h hs))) (mget _ (by assumption))) rfl)) rfl ?_
        refine OL.call [0] (Sort_w t1 A x.name x.a x.n x.c x.args hxl (by omega) (by omega) (by omega)) Tryd.call16 rfl rfl rfl rfl (Ent.and (Ent.frame Up.tabP (fun h hs => imm_ent Up.tabP htab h (hF h hs))) (Ent.frame (Up.rd _ _ _ _) (fun h hs => imm_ent (Up.rd _ _ _ _) hxr h (hF h hs)))) rfl ?_
        rintro _ _ ⟨rfl, rfl⟩
        refine ⟨rfl, rfl, ?_⟩
        refine OL.nil ?_
        refine EX.seq ?_
        refine CW.seq ?_
        refine CW.region ?_
        refine OL.q (Y.move rfl) rfl ?_
        refine OL.q (Y.field L32_1 rfl) rfl ?_
        first | refine OL.q (Y.load T9 rfl (Ent.at 0 rfl (Up.cellIs _ _ _) (blk_cell rfl))) rfl ?_ | refine OL.q (Y.load T9 rfl (Ent.at 1 rfl (Up.cellIs _ _ _) (blk_cell rfl))) rfl ?_ | refine OL.q (Y.load T9 rfl (Ent.at 2 rfl (Up.cellIs _ _ _) (blk_cell rfl))) rfl ?_ | refine OL.q (Y.load T9 rfl (Ent.at 3 rfl (Up.cellIs _ _ _) (blk_cell rfl))) rfl ?_ | refine OL.q (Y.load T9 rfl (Ent.at 4 rfl (Up.cellIs _ _ _) (blk_cell rfl))) rfl ?_ | refine OL.q (Y.load T9 rfl (Ent.at 5 rfl (Up.cellIs _ _ _) (blk_cell rfl))) rfl ?_ | refine OL.q (Y.load T9 rfl (Ent.at 6 rfl (Up.cellIs _ _ _) (blk_cell rfl))) rfl ?_ | refine OL.q (Y.load T9 rfl (Ent.at 7 rfl (Up.cellIs _ _ _) (blk_cell rfl))) rfl ?_ | refine OL.q (Y.load T9 rfl (cellsIs_at0 (rd_at (Ent.at 0 rfl (Up.rd _ _ _ _) row_rd) (mget _ (by assumption))) rfl)) rfl ?_ | refine OL.q (Y.load T9 rfl (cellsIs_at (rd_at (Ent.at 0 rfl (Up.rd _ _ _ _) row_rd) (mget _ (by assumption))) rfl)) rfl ?_ | refine OL.q (Y.load T9 rfl (cellsIs_at0 (rd_at (Ent.at 1 rfl (Up.rd _ _ _ _) row_rd) (mget _ (by assumption))) rfl)) rfl ?_ | refine OL.q (Y.load T9 rfl (cellsIs_at (rd_at (Ent.at 1 rfl (Up.rd _ _ _ _) row_rd) (mget _ (by assumption))) rfl)) rfl ?_ | refine OL.q (Y.load T9 rfl (cellsIs_at0 (rd_at (Ent.at 2 rfl (Up.rd _ _ _ _) row_rd) (mget _ (by assumption))) rfl)) rfl ?_ | refine OL.q (Y.load T9 rfl (cellsIs_at (rd_at (Ent.at 2 rfl (Up.rd _ _ _ _) row_rd) (mget _ (by assumption))) rfl)) rfl ?_ | refine OL.q (Y.load T9 rfl (cellsIs_at0 (rd_at (Ent.at 3 rfl (Up.rd _ _ _ _) row_rd) (mget _ (by assumption))) rfl)) rfl ?_ | refine OL.q (Y.load T9 rfl (cellsIs_at (rd_at (Ent.at 3 rfl (Up.rd _ _ _ _) row_rd) (mget _ (by assumption))) rfl)) rfl ?_ | refine OL.q (Y.load T9 rfl (cellsIs_at0 (rd_at (Ent.at 4 rfl (Up.rd _ _ _ _) row_rd) (mget _ (by assumption))) rfl)) rfl ?_ | refine OL.q (Y.load T9 rfl (cellsIs_at (rd_at (Ent.at 4 rfl (Up.rd _ _ _ _) row_rd) (mget _ (by assumption))) rfl)) rfl ?_ | refine OL.q (Y.load T9 rfl (cellsIs_at0 (rd_at (Ent.at 5 rfl (Up.rd _ _ _ _) row_rd) (mget _ (by assumption))) rfl)) rfl ?_ | refine OL.q (Y.load T9 rfl (cellsIs_at (rd_at (Ent.at 5 rfl (Up.rd _ _ _ _) row_rd) (mget _ (by assumption))) rfl)) rfl ?_ | refine OL.q (Y.load T9 rfl (cellsIs_at0 (rd_at (Ent.at 6 rfl (Up.rd _ _ _ _) row_rd) (mget _ (by assumption))) rfl)) rfl ?_ | refine OL.q (Y.load T9 rfl (cellsIs_at (rd_at (Ent.at 6 rfl (Up.rd _ _ _ _) row_rd) (mget _ (by assumption))) rfl)) rfl ?_ | refine OL.q (Y.load T9 rfl (cellsIs_at0 (rd_at (Ent.at 7 rfl (Up.rd _ _ _ _) row_rd) (mget _ (by assumption))) rfl)) rfl ?_ | refine OL.q (Y.load T9 rfl (cellsIs_at (rd_at (Ent.at 7 rfl (Up.rd _ _ _ _) row_rd) (mget _ (by assumption))) rfl)) rfl ?_ | refine OL.q (Y.load T9 rfl (cellsIs_at0 (rd_at (Ent.frame (Up.rd _ _ _ _) (fun h hs => imm_ent (Up.rd _ _ _ _) (by assumption) h (hF h hs))) (mget _ (by assumption))) rfl)) rfl ?_ | refine OL.q (Y.load T9 rfl (cellsIs_at (rd_at (Ent.frame (Up.rd _ _ _ _) (fun h hs => imm_ent (Up.rd _ _ _ _) (by assumption) h (hF h hs))) (mget _ (by assumption))) rfl)) rfl ?_
        refine OL.q (Y.field L32_2 rfl) rfl ?_
        first | refine OL.q (Y.load T28 rfl (Ent.at 0 rfl (Up.cellIs _ _ _) (blk_cell rfl))) rfl ?_ | refine OL.q (Y.load T28 rfl (Ent.at 1 rfl (Up.cellIs _ _ _) (blk_cell rfl))) rfl ?_ | refine OL.q (Y.load T28 rfl (Ent.at 2 rfl (Up.cellIs _ _ _) (blk_cell rfl))) rfl ?_ | refine OL.q (Y.load T28 rfl (Ent.at 3 rfl (Up.cellIs _ _ _) (blk_cell rfl))) rfl ?_ | refine OL.q (Y.load T28 rfl (Ent.at 4 rfl (Up.cellIs _ _ _) (blk_cell rfl))) rfl ?_ | refine OL.q (Y.load T28 rfl (Ent.at 5 rfl (Up.cellIs _ _ _) (blk_cell rfl))) rfl ?_ | refine OL.q (Y.load T28 rfl (Ent.at 6 rfl (Up.cellIs _ _ _) (blk_cell rfl))) rfl ?_ | refine OL.q (Y.load T28 rfl (Ent.at 7 rfl (Up.cellIs _ _ _) (blk_cell rfl))) rfl ?_ | refine OL.q (Y.load T28 rfl (cellsIs_at0 (rd_at (Ent.at 0 rfl (Up.rd _ _ _ _) row_rd) (mget _ (by assumption))) rfl)) rfl ?_ | refine OL.q (Y.load T28 rfl (cellsIs_at (rd_at (Ent.at 0 rfl (Up.rd _ _ _ _) row_rd) (mget _ (by assumption))) rfl)) rfl ?_ | refine OL.q (Y.load T28 rfl (cellsIs_at0 (rd_at (Ent.at 1 rfl (Up.rd _ _ _ _) row_rd) (mget _ (by assumption))) rfl)) rfl ?_ | refine OL.q (Y.load T28 rfl (cellsIs_at (rd_at (Ent.at 1 rfl (Up.rd _ _ _ _) row_rd) (mget _ (by assumption))) rfl)) rfl ?_ | refine OL.q (Y.load T28 rfl (cellsIs_at0 (rd_at (Ent.at 2 rfl (Up.rd _ _ _ _) row_rd) (mget _ (by assumption))) rfl)) rfl ?_ | refine OL.q (Y.load T28 rfl (cellsIs_at (rd_at (Ent.at 2 rfl (Up.rd _ _ _ _) row_rd) (mget _ (by assumption))) rfl)) rfl ?_ | refine OL.q (Y.load T28 rfl (cellsIs_at0 (rd_at (Ent.at 3 rfl (Up.rd _ _ _ _) row_rd) (mget _ (by assumption))) rfl)) rfl ?_ | refine OL.q (Y.load T28 rfl (cellsIs_at (rd_at (Ent.at 3 rfl (Up.rd _ _ _ _) row_rd) (mget _ (by assumption))) rfl)) rfl ?_ | refine OL.q (Y.load T28 rfl (cellsIs_at0 (rd_at (Ent.at 4 rfl (Up.rd _ _ _ _) row_rd) (mget _ (by assumption))) rfl)) rfl ?_ | refine OL.q (Y.load T28 rfl (cellsIs_at (rd_at (Ent.at 4 rfl (Up.rd _ _ _ _) row_rd) (mget _ (by assumption))) rfl)) rfl ?_ | refine OL.q (Y.load T28 rfl (cellsIs_at0 (rd_at (Ent.at 5 rfl (Up.rd _ _ _ _) row_rd) (mget _ (by assumption))) rfl)) rfl ?_ | refine OL.q (Y.load T28 rfl (cellsIs_at (rd_at (Ent.at 5 rfl (Up.rd _ _ _ _) row_rd) (mget _ (by assumption))) rfl)) rfl ?_ | refine OL.q (Y.load T28 rfl (cellsIs_at0 (rd_at (Ent.at 6 rfl (Up.rd _ _ _ _) row_rd) (mget _ (by assumption))) rfl)) rfl ?_ | refine OL.q (Y.load T28 rfl (cellsIs_at (rd_at (Ent.at 6 rfl (Up.rd _ _ _ _) row_rd) (mget _ (by assumption))) rfl)) rfl ?_ | refine OL.q (Y.load T28 rfl (cellsIs_at0 (rd_at (Ent.at 7 rfl (Up.rd _ _ _ _) row_rd) (mget _ (by assumption))) rfl)) rfl ?_ | refine OL.q (Y.load T28 rfl (cellsIs_at (rd_at (Ent.at 7 rfl (Up.rd _ _ _ _) row_rd) (mget _ (by assumption))) rfl)) rfl ?_ | refine OL.q (Y.load T28 rfl (cellsIs_at0 (rd_at (Ent.frame (Up.rd _ _ _ _) (fun h hs => imm_ent (Up.rd _ _ _ _) (by assumption) h (hF h hs))) (mget _ (by assumption))) rfl)) rfl ?_ | refine OL.q (Y.load T28 rfl (cellsIs_at (rd_at (Ent.frame (Up.rd _ _ _ _) (fun h hs => imm_ent (Up.rd _ _ _ _) (by assumption) h (hF h hs))) (mget _ (by assumption))) rfl)) rfl ?_
        refine OL.call [1] (Sort_w t2 A x.name x.a x.n x.c x.args hxl (by omega) (by omega) (by omega)) Tryd.call16 rfl rfl rfl rfl (Ent.and (Ent.frame Up.tabP (fun h hs => imm_ent Up.tabP htab h (hF h hs))) (Ent.frame (Up.rd _ _ _ _) (fun h hs => imm_ent (Up.rd _ _ _ _) hxr h (hF h hs)))) rfl ?_
        rintro _ _ ⟨rfl, rfl⟩
        refine ⟨rfl, rfl, ?_⟩
        refine OL.q (Y.move rfl) rfl ?_
        refine OL.q (Y.extract rfl rfl) rfl ?_
        refine OL.q (Y.extract rfl rfl) rfl ?_
        refine OL.q (Y.assign rfl) rfl ?_
        refine OL.q (Y.assign rfl) rfl ?_
        refine OL.nil ?_
        refine EX.seq ?_
        refine CW.seq ?_
        refine CW.region ?_
        refine OL.q (Y.move rfl) rfl ?_
        refine OL.q (Y.neq rfl rfl) rfl ?_
        refine OL.q (Y.move rfl) rfl ?_
        refine OL.guard (s := 86) rfl (fun g18_2 => ?_) (fun g18_2 => ?_)
        · have ng18_2 := g18_2
          repeat (first | replace ng18_2 := yes ng18_2 | replace ng18_2 := no ng18_2 | replace ng18_2 := nyes ng18_2 | replace ng18_2 := nno ng18_2)
          refine OL.on g18_2 rfl rfl ?_
          refine OL.q (Y.move rfl) rfl ?_
          refine OL.on g18_2 rfl rfl ?_
          refine OL.call [] (Sorts_w t1 (A.sort x.name x.args).2.2) Tryd.call27 rfl rfl rfl rfl (Ent.at 0 rfl (Up.arena _ _) (fun _ h => h)) rfl ?_
          rintro _ _ ⟨sa2, sc2, ss, M2, rfl, hsq, hso, rfl⟩
          refine ⟨rfl, rfl, ?_⟩
          refine OL.on g18_2 rfl rfl ?_
          refine OL.q (Y.lenSl Tryd.underlying53 rfl) rfl ?_
          refine OL.on g18_2 rfl rfl ?_
          refine OL.q (Y.move rfl) rfl ?_
          refine OL.on g18_2 rfl rfl ?_
          refine OL.call [] (Sorts_w t2 (A.sort x.name x.args).2.2) Tryd.call27 rfl rfl rfl rfl (Ent.at 1 rfl (Up.arena _ _) (fun _ h => h)) rfl ?_
          rintro _ _ ⟨sa3, sc3, ss3, M3, rfl, hsq3, hso3, rfl⟩
          refine ⟨rfl, rfl, ?_⟩
          refine OL.on g18_2 rfl rfl ?_
          refine OL.q (Y.lenSl Tryd.underlying53 rfl) rfl ?_
          refine OL.on g18_2 rfl rfl ?_
          refine OL.q (Y.neq rfl rfl) rfl ?_
          refine OL.q (Y.pickT rfl g18_2 rfl) rfl ?_
          refine OL.nil ?_
          refine EX.seq ?_
          refine CW.cond rfl (fun h4 => ?_) (fun h4 => ?_)
          · repeat (first | replace h4 := yes h4 | replace h4 := no h4 | replace h4 := nyes h4 | replace h4 := nno h4)
            exfalso
            exact h4 rfl
          repeat (first | replace h4 := yes h4 | replace h4 := no h4 | replace h4 := nyes h4 | replace h4 := nno h4)
          refine CW.skip ?_
          refine EX.norB ?_
          refine EX.norB ?_
          refine EX.seq ?_
          refine CW.region ?_
          first | refine OL.q (Y.add1 rfl rfl rfl (by omega)) rfl ?_ | refine OL.q (Y.addN rfl rfl (by omega)) rfl ?_ | refine OL.q (Y.add rfl rfl (by omega)) rfl ?_
          refine OL.q (Y.move rfl) rfl ?_
          refine OL.nil ?_
          exact EX.next (k + 1) [0, 1] ((by omega)) (by first | omega | (dsimp only; omega)) ⟨rfl, rfl, rfl, rfl, rfl, trivial⟩ rfl (by show [_, _] = [_, _]; rw [take_snoc (mget ActC.q hp), laid_snoc, hA, act_sort (show x.q.what = 0 from h3)]; rfl)
        · have ng18_2 := g18_2
          repeat (first | replace ng18_2 := yes ng18_2 | replace ng18_2 := no ng18_2 | replace ng18_2 := nyes ng18_2 | replace ng18_2 := nno ng18_2)
          refine OL.no g18_2 rfl rfl rfl ?_
          refine OL.no g18_2 rfl rfl rfl ?_
          refine OL.no g18_2 rfl rfl rfl ?_
          refine OL.no g18_2 rfl rfl rfl ?_
          refine OL.no g18_2 rfl rfl rfl ?_
          refine OL.no g18_2 rfl rfl rfl ?_
          refine OL.no g18_2 rfl rfl rfl ?_
          refine OL.q (Y.pickF rfl g18_2 rfl) rfl ?_
          refine OL.nil ?_
          refine EX.seq ?_
          refine CW.condF rfl (rfl) ?_
          refine CW.skip ?_
          refine EX.norB ?_
          refine EX.norB ?_
          refine EX.seq ?_
          refine CW.region ?_
          first | refine OL.q (Y.add1 rfl rfl rfl (by omega)) rfl ?_ | refine OL.q (Y.addN rfl rfl (by omega)) rfl ?_ | refine OL.q (Y.add rfl rfl (by omega)) rfl ?_
          refine OL.q (Y.move rfl) rfl ?_
          refine OL.nil ?_
          exact EX.next (k + 1) [0, 1] ((by omega)) (by first | omega | (dsimp only; omega)) ⟨rfl, rfl, rfl, rfl, rfl, trivial⟩ rfl (by show [_, _] = [_, _]; rw [take_snoc (mget ActC.q hp), laid_snoc, hA, act_sort (show x.q.what = 0 from h3)]; rfl)
      · have bh3 := h3
        repeat (first | replace h3 := yes h3 | replace h3 := no h3 | replace h3 := nyes h3 | replace h3 := nno h3)
        refine CW.seq ?_
        refine CW.region ?_
        refine OL.q (Y.eql rfl rfl) rfl ?_
        refine OL.q (Y.assign rfl) rfl ?_
        refine OL.nil ?_
        refine EX.seq ?_
        refine CW.cond rfl (fun h5 => ?_) (fun h5 => ?_)
        · have bh5 := h5
          repeat (first | replace h5 := yes h5 | replace h5 := no h5 | replace h5 := nyes h5 | replace h5 := nno h5)
          refine CW.seq ?_
          refine CW.region ?_
          refine OL.q (Y.field L32_1 rfl) rfl ?_
          first | refine OL.q (Y.load T9 rfl (Ent.at 0 rfl (Up.cellIs _ _ _) (blk_cell rfl))) rfl ?_ | refine OL.q (Y.load T9 rfl (Ent.at 1 rfl (Up.cellIs _ _ _) (blk_cell rfl))) rfl ?_ | refine OL.q (Y.load T9 rfl (Ent.at 2 rfl (Up.cellIs _ _ _) (blk_cell rfl))) rfl ?_ | refine OL.q (Y.load T9 rfl (Ent.at 3 rfl (Up.cellIs _ _ _) (blk_cell rfl))) rfl ?_ | refine OL.q (Y.load T9 rfl (Ent.at 4 rfl (Up.cellIs _ _ _) (blk_cell rfl))) rfl ?_ | refine OL.q (Y.load T9 rfl (Ent.at 5 rfl (Up.cellIs _ _ _) (blk_cell rfl))) rfl ?_ | refine OL.q (Y.load T9 rfl (Ent.at 6 rfl (Up.cellIs _ _ _) (blk_cell rfl))) rfl ?_ | refine OL.q (Y.load T9 rfl (Ent.at 7 rfl (Up.cellIs _ _ _) (blk_cell rfl))) rfl ?_ | refine OL.q (Y.load T9 rfl (cellsIs_at0 (rd_at (Ent.at 0 rfl (Up.rd _ _ _ _) row_rd) (mget _ (by assumption))) rfl)) rfl ?_ | refine OL.q (Y.load T9 rfl (cellsIs_at (rd_at (Ent.at 0 rfl (Up.rd _ _ _ _) row_rd) (mget _ (by assumption))) rfl)) rfl ?_ | refine OL.q (Y.load T9 rfl (cellsIs_at0 (rd_at (Ent.at 1 rfl (Up.rd _ _ _ _) row_rd) (mget _ (by assumption))) rfl)) rfl ?_ | refine OL.q (Y.load T9 rfl (cellsIs_at (rd_at (Ent.at 1 rfl (Up.rd _ _ _ _) row_rd) (mget _ (by assumption))) rfl)) rfl ?_ | refine OL.q (Y.load T9 rfl (cellsIs_at0 (rd_at (Ent.at 2 rfl (Up.rd _ _ _ _) row_rd) (mget _ (by assumption))) rfl)) rfl ?_ | refine OL.q (Y.load T9 rfl (cellsIs_at (rd_at (Ent.at 2 rfl (Up.rd _ _ _ _) row_rd) (mget _ (by assumption))) rfl)) rfl ?_ | refine OL.q (Y.load T9 rfl (cellsIs_at0 (rd_at (Ent.at 3 rfl (Up.rd _ _ _ _) row_rd) (mget _ (by assumption))) rfl)) rfl ?_ | refine OL.q (Y.load T9 rfl (cellsIs_at (rd_at (Ent.at 3 rfl (Up.rd _ _ _ _) row_rd) (mget _ (by assumption))) rfl)) rfl ?_ | refine OL.q (Y.load T9 rfl (cellsIs_at0 (rd_at (Ent.at 4 rfl (Up.rd _ _ _ _) row_rd) (mget _ (by assumption))) rfl)) rfl ?_ | refine OL.q (Y.load T9 rfl (cellsIs_at (rd_at (Ent.at 4 rfl (Up.rd _ _ _ _) row_rd) (mget _ (by assumption))) rfl)) rfl ?_ | refine OL.q (Y.load T9 rfl (cellsIs_at0 (rd_at (Ent.at 5 rfl (Up.rd _ _ _ _) row_rd) (mget _ (by assumption))) rfl)) rfl ?_ | refine OL.q (Y.load T9 rfl (cellsIs_at (rd_at (Ent.at 5 rfl (Up.rd _ _ _ _) row_rd) (mget _ (by assumption))) rfl)) rfl ?_ | refine OL.q (Y.load T9 rfl (cellsIs_at0 (rd_at (Ent.at 6 rfl (Up.rd _ _ _ _) row_rd) (mget _ (by assumption))) rfl)) rfl ?_ | refine OL.q (Y.load T9 rfl (cellsIs_at (rd_at (Ent.at 6 rfl (Up.rd _ _ _ _) row_rd) (mget _ (by assumption))) rfl)) rfl ?_ | refine OL.q (Y.load T9 rfl (cellsIs_at0 (rd_at (Ent.at 7 rfl (Up.rd _ _ _ _) row_rd) (mget _ (by assumption))) rfl)) rfl ?_ | refine OL.q (Y.load T9 rfl (cellsIs_at (rd_at (Ent.at 7 rfl (Up.rd _ _ _ _) row_rd) (mget _ (by assumption))) rfl)) rfl ?_ | refine OL.q (Y.load T9 rfl (cellsIs_at0 (rd_at (Ent.frame (Up.rd _ _ _ _) (fun h hs => imm_ent (Up.rd _ _ _ _) (by assumption) h (hF h hs))) (mget _ (by assumption))) rfl)) rfl ?_ | refine OL.q (Y.load T9 rfl (cellsIs_at (rd_at (Ent.frame (Up.rd _ _ _ _) (fun h hs => imm_ent (Up.rd _ _ _ _) (by assumption) h (hF h hs))) (mget _ (by assumption))) rfl)) rfl ?_
          refine OL.q (Y.field L32_2 rfl) rfl ?_
          first | refine OL.q (Y.load T28 rfl (Ent.at 0 rfl (Up.cellIs _ _ _) (blk_cell rfl))) rfl ?_ | refine OL.q (Y.load T28 rfl (Ent.at 1 rfl (Up.cellIs _ _ _) (blk_cell rfl))) rfl ?_ | refine OL.q (Y.load T28 rfl (Ent.at 2 rfl (Up.cellIs _ _ _) (blk_cell rfl))) rfl ?_ | refine OL.q (Y.load T28 rfl (Ent.at 3 rfl (Up.cellIs _ _ _) (blk_cell rfl))) rfl ?_ | refine OL.q (Y.load T28 rfl (Ent.at 4 rfl (Up.cellIs _ _ _) (blk_cell rfl))) rfl ?_ | refine OL.q (Y.load T28 rfl (Ent.at 5 rfl (Up.cellIs _ _ _) (blk_cell rfl))) rfl ?_ | refine OL.q (Y.load T28 rfl (Ent.at 6 rfl (Up.cellIs _ _ _) (blk_cell rfl))) rfl ?_ | refine OL.q (Y.load T28 rfl (Ent.at 7 rfl (Up.cellIs _ _ _) (blk_cell rfl))) rfl ?_ | refine OL.q (Y.load T28 rfl (cellsIs_at0 (rd_at (Ent.at 0 rfl (Up.rd _ _ _ _) row_rd) (mget _ (by assumption))) rfl)) rfl ?_ | refine OL.q (Y.load T28 rfl (cellsIs_at (rd_at (Ent.at 0 rfl (Up.rd _ _ _ _) row_rd) (mget _ (by assumption))) rfl)) rfl ?_ | refine OL.q (Y.load T28 rfl (cellsIs_at0 (rd_at (Ent.at 1 rfl (Up.rd _ _ _ _) row_rd) (mget _ (by assumption))) rfl)) rfl ?_ | refine OL.q (Y.load T28 rfl (cellsIs_at (rd_at (Ent.at 1 rfl (Up.rd _ _ _ _) row_rd) (mget _ (by assumption))) rfl)) rfl ?_ | refine OL.q (Y.load T28 rfl (cellsIs_at0 (rd_at (Ent.at 2 rfl (Up.rd _ _ _ _) row_rd) (mget _ (by assumption))) rfl)) rfl ?_ | refine OL.q (Y.load T28 rfl (cellsIs_at (rd_at (Ent.at 2 rfl (Up.rd _ _ _ _) row_rd) (mget _ (by assumption))) rfl)) rfl ?_ | refine OL.q (Y.load T28 rfl (cellsIs_at0 (rd_at (Ent.at 3 rfl (Up.rd _ _ _ _) row_rd) (mget _ (by assumption))) rfl)) rfl ?_ | refine OL.q (Y.load T28 rfl (cellsIs_at (rd_at (Ent.at 3 rfl (Up.rd _ _ _ _) row_rd) (mget _ (by assumption))) rfl)) rfl ?_ | refine OL.q (Y.load T28 rfl (cellsIs_at0 (rd_at (Ent.at 4 rfl (Up.rd _ _ _ _) row_rd) (mget _ (by assumption))) rfl)) rfl ?_ | refine OL.q (Y.load T28 rfl (cellsIs_at (rd_at (Ent.at 4 rfl (Up.rd _ _ _ _) row_rd) (mget _ (by assumption))) rfl)) rfl ?_ | refine OL.q (Y.load T28 rfl (cellsIs_at0 (rd_at (Ent.at 5 rfl (Up.rd _ _ _ _) row_rd) (mget _ (by assumption))) rfl)) rfl ?_ | refine OL.q (Y.load T28 rfl (cellsIs_at (rd_at (Ent.at 5 rfl (Up.rd _ _ _ _) row_rd) (mget _ (by assumption))) rfl)) rfl ?_ | refine OL.q (Y.load T28 rfl (cellsIs_at0 (rd_at (Ent.at 6 rfl (Up.rd _ _ _ _) row_rd) (mget _ (by assumption))) rfl)) rfl ?_ | refine OL.q (Y.load T28 rfl (cellsIs_at (rd_at (Ent.at 6 rfl (Up.rd _ _ _ _) row_rd) (mget _ (by assumption))) rfl)) rfl ?_ | refine OL.q (Y.load T28 rfl (cellsIs_at0 (rd_at (Ent.at 7 rfl (Up.rd _ _ _ _) row_rd) (mget _ (by assumption))) rfl)) rfl ?_ | refine OL.q (Y.load T28 rfl (cellsIs_at (rd_at (Ent.at 7 rfl (Up.rd _ _ _ _) row_rd) (mget _ (by assumption))) rfl)) rfl ?_ | refine OL.q (Y.load T28 rfl (cellsIs_at0 (rd_at (Ent.frame (Up.rd _ _ _ _) (fun h hs => imm_ent (Up.rd _ _ _ _) (by assumption) h (hF h hs))) (mget _ (by assumption))) rfl)) rfl ?_ | refine OL.q (Y.load T28 rfl (cellsIs_at (rd_at (Ent.frame (Up.rd _ _ _ _) (fun h hs => imm_ent (Up.rd _ _ _ _) (by assumption) h (hF h hs))) (mget _ (by assumption))) rfl)) rfl ?_
          refine OL.q (Y.field L32_3 rfl) rfl ?_
          first | refine OL.q (Y.load T3 rfl (Ent.at 0 rfl (Up.cellIs _ _ _) (blk_cell rfl))) rfl ?_ | refine OL.q (Y.load T3 rfl (Ent.at 1 rfl (Up.cellIs _ _ _) (blk_cell rfl))) rfl ?_ | refine OL.q (Y.load T3 rfl (Ent.at 2 rfl (Up.cellIs _ _ _) (blk_cell rfl))) rfl ?_ | refine OL.q (Y.load T3 rfl (Ent.at 3 rfl (Up.cellIs _ _ _) (blk_cell rfl))) rfl ?_ | refine OL.q (Y.load T3 rfl (Ent.at 4 rfl (Up.cellIs _ _ _) (blk_cell rfl))) rfl ?_ | refine OL.q (Y.load T3 rfl (Ent.at 5 rfl (Up.cellIs _ _ _) (blk_cell rfl))) rfl ?_ | refine OL.q (Y.load T3 rfl (Ent.at 6 rfl (Up.cellIs _ _ _) (blk_cell rfl))) rfl ?_ | refine OL.q (Y.load T3 rfl (Ent.at 7 rfl (Up.cellIs _ _ _) (blk_cell rfl))) rfl ?_ | refine OL.q (Y.load T3 rfl (cellsIs_at0 (rd_at (Ent.at 0 rfl (Up.rd _ _ _ _) row_rd) (mget _ (by assumption))) rfl)) rfl ?_ | refine OL.q (Y.load T3 rfl (cellsIs_at (rd_at (Ent.at 0 rfl (Up.rd _ _ _ _) row_rd) (mget _ (by assumption))) rfl)) rfl ?_ | refine OL.q (Y.load T3 rfl (cellsIs_at0 (rd_at (Ent.at 1 rfl (Up.rd _ _ _ _) row_rd) (mget _ (by assumption))) rfl)) rfl ?_ | refine OL.q (Y.load T3 rfl (cellsIs_at (rd_at (Ent.at 1 rfl (Up.rd _ _ _ _) row_rd) (mget _ (by assumption))) rfl)) rfl ?_ | refine OL.q (Y.load T3 rfl (cellsIs_at0 (rd_at (Ent.at 2 rfl (Up.rd _ _ _ _) row_rd) (mget _ (by assumption))) rfl)) rfl ?_ | refine OL.q (Y.load T3 rfl (cellsIs_at (rd_at (Ent.at 2 rfl (Up.rd _ _ _ _) row_rd) (mget _ (by assumption))) rfl)) rfl ?_ | refine OL.q (Y.load T3 rfl (cellsIs_at0 (rd_at (Ent.at 3 rfl (Up.rd _ _ _ _) row_rd) (mget _ (by assumption))) rfl)) rfl ?_ | refine OL.q (Y.load T3 rfl (cellsIs_at (rd_at (Ent.at 3 rfl (Up.rd _ _ _ _) row_rd) (mget _ (by assumption))) rfl)) rfl ?_ | refine OL.q (Y.load T3 rfl (cellsIs_at0 (rd_at (Ent.at 4 rfl (Up.rd _ _ _ _) row_rd) (mget _ (by assumption))) rfl)) rfl ?_ | refine OL.q (Y.load T3 rfl (cellsIs_at (rd_at (Ent.at 4 rfl (Up.rd _ _ _ _) row_rd) (mget _ (by assumption))) rfl)) rfl ?_ | refine OL.q (Y.load T3 rfl (cellsIs_at0 (rd_at (Ent.at 5 rfl (Up.rd _ _ _ _) row_rd) (mget _ (by assumption))) rfl)) rfl ?_ | refine OL.q (Y.load T3 rfl (cellsIs_at (rd_at (Ent.at 5 rfl (Up.rd _ _ _ _) row_rd) (mget _ (by assumption))) rfl)) rfl ?_ | refine OL.q (Y.load T3 rfl (cellsIs_at0 (rd_at (Ent.at 6 rfl (Up.rd _ _ _ _) row_rd) (mget _ (by assumption))) rfl)) rfl ?_ | refine OL.q (Y.load T3 rfl (cellsIs_at (rd_at (Ent.at 6 rfl (Up.rd _ _ _ _) row_rd) (mget _ (by assumption))) rfl)) rfl ?_ | refine OL.q (Y.load T3 rfl (cellsIs_at0 (rd_at (Ent.at 7 rfl (Up.rd _ _ _ _) row_rd) (mget _ (by assumption))) rfl)) rfl ?_ | refine OL.q (Y.load T3 rfl (cellsIs_at (rd_at (Ent.at 7 rfl (Up.rd _ _ _ _) row_rd) (mget _ (by assumption))) rfl)) rfl ?_ | refine OL.q (Y.load T3 rfl (cellsIs_at0 (rd_at (Ent.frame (Up.rd _ _ _ _) (fun h hs => imm_ent (Up.rd _ _ _ _) (by assumption) h (hF h hs))) (mget _ (by assumption))) rfl)) rfl ?_ | refine OL.q (Y.load T3 rfl (cellsIs_at (rd_at (Ent.frame (Up.rd _ _ _ _) (fun h hs => imm_ent (Up.rd _ _ _ _) (by assumption) h (hF h hs))) (mget _ (by assumption))) rfl)) rfl ?_
          refine OL.q (Y.build B38 rfl rfl) rfl ?_
          refine OL.alloc C38 rfl (fun b9 => ⟨rfl, rfl, ?_⟩)
          first | refine OL.storeAll 0 rfl C38 rfl rfl rfl rfl rfl rfl ⟨rfl, rfl, ?_⟩ | refine OL.storeAll 1 rfl C38 rfl rfl rfl rfl rfl rfl ⟨rfl, rfl, ?_⟩ | refine OL.storeAll 2 rfl C38 rfl rfl rfl rfl rfl rfl ⟨rfl, rfl, ?_⟩ | refine OL.storeAll 3 rfl C38 rfl rfl rfl rfl rfl rfl ⟨rfl, rfl, ?_⟩ | refine OL.storeAll 4 rfl C38 rfl rfl rfl rfl rfl rfl ⟨rfl, rfl, ?_⟩ | refine OL.storeAll 5 rfl C38 rfl rfl rfl rfl rfl rfl ⟨rfl, rfl, ?_⟩ | refine OL.storeAll 6 rfl C38 rfl rfl rfl rfl rfl rfl ⟨rfl, rfl, ?_⟩ | refine OL.storeAll 7 rfl C38 rfl rfl rfl rfl rfl rfl ⟨rfl, rfl, ?_⟩
          refine OL.nil ?_
          refine EX.seq ?_
          refine CW.seq ?_
          refine CW.region ?_
          refine OL.q (Y.move rfl) rfl ?_
          first | refine OL.q (Y.loadN S38 rfl rfl (Ent.at 0 rfl (Up.cellsIs _ _ _) blk_cells)) rfl ?_ | refine OL.q (Y.loadN S38 rfl rfl (Ent.at 1 rfl (Up.cellsIs _ _ _) blk_cells)) rfl ?_ | refine OL.q (Y.loadN S38 rfl rfl (Ent.at 2 rfl (Up.cellsIs _ _ _) blk_cells)) rfl ?_ | refine OL.q (Y.loadN S38 rfl rfl (Ent.at 3 rfl (Up.cellsIs _ _ _) blk_cells)) rfl ?_ | refine OL.q (Y.loadN S38 rfl rfl (Ent.at 4 rfl (Up.cellsIs _ _ _) blk_cells)) rfl ?_ | refine OL.q (Y.loadN S38 rfl rfl (Ent.at 5 rfl (Up.cellsIs _ _ _) blk_cells)) rfl ?_ | refine OL.q (Y.loadN S38 rfl rfl (Ent.at 6 rfl (Up.cellsIs _ _ _) blk_cells)) rfl ?_ | refine OL.q (Y.loadN S38 rfl rfl (Ent.at 7 rfl (Up.cellsIs _ _ _) blk_cells)) rfl ?_ | refine OL.q (Y.loadN S38 rfl rfl (rd_at (Ent.at 0 rfl (Up.rd _ _ _ _) row_rd) (mget _ (by assumption)))) rfl ?_ | refine OL.q (Y.loadN S38 rfl rfl (rd_at (Ent.at 1 rfl (Up.rd _ _ _ _) row_rd) (mget _ (by assumption)))) rfl ?_ | refine OL.q (Y.loadN S38 rfl rfl (rd_at (Ent.at 2 rfl (Up.rd _ _ _ _) row_rd) (mget _ (by assumption)))) rfl ?_ | refine OL.q (Y.loadN S38 rfl rfl (rd_at (Ent.at 3 rfl (Up.rd _ _ _ _) row_rd) (mget _ (by assumption)))) rfl ?_ | refine OL.q (Y.loadN S38 rfl rfl (rd_at (Ent.at 4 rfl (Up.rd _ _ _ _) row_rd) (mget _ (by assumption)))) rfl ?_ | refine OL.q (Y.loadN S38 rfl rfl (rd_at (Ent.at 5 rfl (Up.rd _ _ _ _) row_rd) (mget _ (by assumption)))) rfl ?_ | refine OL.q (Y.loadN S38 rfl rfl (rd_at (Ent.at 6 rfl (Up.rd _ _ _ _) row_rd) (mget _ (by assumption)))) rfl ?_ | refine OL.q (Y.loadN S38 rfl rfl (rd_at (Ent.at 7 rfl (Up.rd _ _ _ _) row_rd) (mget _ (by assumption)))) rfl ?_ | refine OL.q (Y.loadN S38 rfl rfl (rd_at (Ent.frame (Up.rd _ _ _ _) (fun h hs => imm_ent (Up.rd _ _ _ _) (by assumption) h (hF h hs))) (mget _ (by assumption)))) rfl ?_
          refine OL.call [0] (Fun_w t1 A x.name x.a x.n x.c x.args x.result hxl (by omega) (by omega)) Tryd.call17 rfl rfl rfl rfl (Ent.frame (Up.rd _ _ _ _) (fun h hs => imm_ent (Up.rd _ _ _ _) hxr h (hF h hs))) rfl ?_
          rintro _ _ ⟨rfl, rfl⟩
          refine ⟨rfl, rfl, ?_⟩
          refine OL.nil ?_
          refine EX.seq ?_
          refine CW.region ?_
          refine OL.q (Y.move rfl) rfl ?_
          first | refine OL.q (Y.loadN S38 rfl rfl (Ent.at 0 rfl (Up.cellsIs _ _ _) blk_cells)) rfl ?_ | refine OL.q (Y.loadN S38 rfl rfl (Ent.at 1 rfl (Up.cellsIs _ _ _) blk_cells)) rfl ?_ | refine OL.q (Y.loadN S38 rfl rfl (Ent.at 2 rfl (Up.cellsIs _ _ _) blk_cells)) rfl ?_ | refine OL.q (Y.loadN S38 rfl rfl (Ent.at 3 rfl (Up.cellsIs _ _ _) blk_cells)) rfl ?_ | refine OL.q (Y.loadN S38 rfl rfl (Ent.at 4 rfl (Up.cellsIs _ _ _) blk_cells)) rfl ?_ | refine OL.q (Y.loadN S38 rfl rfl (Ent.at 5 rfl (Up.cellsIs _ _ _) blk_cells)) rfl ?_ | refine OL.q (Y.loadN S38 rfl rfl (Ent.at 6 rfl (Up.cellsIs _ _ _) blk_cells)) rfl ?_ | refine OL.q (Y.loadN S38 rfl rfl (Ent.at 7 rfl (Up.cellsIs _ _ _) blk_cells)) rfl ?_ | refine OL.q (Y.loadN S38 rfl rfl (rd_at (Ent.at 0 rfl (Up.rd _ _ _ _) row_rd) (mget _ (by assumption)))) rfl ?_ | refine OL.q (Y.loadN S38 rfl rfl (rd_at (Ent.at 1 rfl (Up.rd _ _ _ _) row_rd) (mget _ (by assumption)))) rfl ?_ | refine OL.q (Y.loadN S38 rfl rfl (rd_at (Ent.at 2 rfl (Up.rd _ _ _ _) row_rd) (mget _ (by assumption)))) rfl ?_ | refine OL.q (Y.loadN S38 rfl rfl (rd_at (Ent.at 3 rfl (Up.rd _ _ _ _) row_rd) (mget _ (by assumption)))) rfl ?_ | refine OL.q (Y.loadN S38 rfl rfl (rd_at (Ent.at 4 rfl (Up.rd _ _ _ _) row_rd) (mget _ (by assumption)))) rfl ?_ | refine OL.q (Y.loadN S38 rfl rfl (rd_at (Ent.at 5 rfl (Up.rd _ _ _ _) row_rd) (mget _ (by assumption)))) rfl ?_ | refine OL.q (Y.loadN S38 rfl rfl (rd_at (Ent.at 6 rfl (Up.rd _ _ _ _) row_rd) (mget _ (by assumption)))) rfl ?_ | refine OL.q (Y.loadN S38 rfl rfl (rd_at (Ent.at 7 rfl (Up.rd _ _ _ _) row_rd) (mget _ (by assumption)))) rfl ?_ | refine OL.q (Y.loadN S38 rfl rfl (rd_at (Ent.frame (Up.rd _ _ _ _) (fun h hs => imm_ent (Up.rd _ _ _ _) (by assumption) h (hF h hs))) (mget _ (by assumption)))) rfl ?_
          refine OL.call [1] (Fun_w t2 A x.name x.a x.n x.c x.args x.result hxl (by omega) (by omega)) Tryd.call17 rfl rfl rfl rfl (Ent.frame (Up.rd _ _ _ _) (fun h hs => imm_ent (Up.rd _ _ _ _) hxr h (hF h hs))) rfl ?_
          rintro _ _ ⟨rfl, rfl⟩
          refine ⟨rfl, rfl, ?_⟩
          refine OL.nil ?_
          refine EX.norB ?_
          refine EX.norB ?_
          refine EX.seq ?_
          refine CW.region ?_
          first | refine OL.q (Y.add1 rfl rfl rfl (by omega)) rfl ?_ | refine OL.q (Y.addN rfl rfl (by omega)) rfl ?_ | refine OL.q (Y.add rfl rfl (by omega)) rfl ?_
          refine OL.q (Y.move rfl) rfl ?_
          refine OL.nil ?_
          exact EX.next (k + 1) [0, 1] ((by omega)) (by first | omega | (dsimp only; omega)) ⟨rfl, rfl, rfl, rfl, rfl, trivial⟩ rfl (by show [_, _] = [_, _]; rw [take_snoc (mget ActC.q hp), laid_snoc, hA, act_func (show ¬ x.q.what = 0 from h3) (show x.q.what = 1 from h5)]; rfl)
        · have bh5 := h5
          repeat (first | replace h5 := yes h5 | replace h5 := no h5 | replace h5 := nyes h5 | replace h5 := nno h5)
          refine CW.seq ?_
          refine CW.region ?_
          refine OL.q (Y.move rfl) rfl ?_
          refine OL.call [] (Len_w t1 A) Tryd.call18 rfl rfl rfl rfl (Ent.at 0 rfl (Up.arena _ _) (fun _ h => h)) rfl ?_
          rintro _ _ ⟨rfl, rfl⟩
          refine ⟨rfl, rfl, ?_⟩
          refine OL.q (Y.assign rfl) rfl ?_
          refine OL.nil ?_
          refine EX.seq ?_
          refine CW.seq ?_
          refine CW.region ?_
          refine OL.q (Y.move rfl) rfl ?_
          refine OL.q (Y.field L32_4 rfl) rfl ?_
          refine OL.q (Y.loadN S30 (vs := termCells x.term) rfl rfl (Ent.at 2 rfl (Up.cellsIs _ _ _) blk_act)) rfl ?_
          refine OL.call [0] (Term_w t1 A x.term hyl (by omega) (by omega)) Tryd.call19 rfl rfl rfl rfl (Ent.frame (Up.rd _ _ _ _) (fun h hs => imm_ent (Up.rd _ _ _ _) hyr h (hF h hs))) rfl ?_
          rintro _ _ ⟨rfl, rfl⟩
          refine ⟨rfl, rfl, ?_⟩
          refine OL.q (Y.move rfl) rfl ?_
          refine OL.q (Y.extract rfl rfl) rfl ?_
          refine OL.q (Y.extract rfl rfl) rfl ?_
          refine OL.q (Y.assign rfl) rfl ?_
          refine OL.q (Y.assign rfl) rfl ?_
          refine OL.nil ?_
          refine EX.seq ?_
          refine CW.seq ?_
          refine CW.region ?_
          refine OL.q (Y.move rfl) rfl ?_
          refine OL.q (Y.field L32_4 rfl) rfl ?_
          refine OL.q (Y.loadN S30 (vs := termCells x.term) rfl rfl (Ent.at 2 rfl (Up.cellsIs _ _ _) blk_act)) rfl ?_
          refine OL.call [1] (Term_w t2 A x.term hyl (by omega) (by omega)) Tryd.call19 rfl rfl rfl rfl (Ent.frame (Up.rd _ _ _ _) (fun h hs => imm_ent (Up.rd _ _ _ _) hyr h (hF h hs))) rfl ?_
          rintro _ _ ⟨rfl, rfl⟩
          refine ⟨rfl, rfl, ?_⟩
          refine OL.q (Y.move rfl) rfl ?_
          refine OL.q (Y.extract rfl rfl) rfl ?_
          refine OL.q (Y.extract rfl rfl) rfl ?_
          refine OL.q (Y.assign rfl) rfl ?_
          refine OL.q (Y.assign rfl) rfl ?_
          refine OL.nil ?_
          refine EX.seq ?_
          refine CW.seq ?_
          refine CW.region ?_
          refine OL.q (Y.move rfl) rfl ?_
          refine OL.q (Y.move rfl) rfl ?_
          refine OL.q (Y.neq rfl rfl) rfl ?_
          refine OL.q (Y.move rfl) rfl ?_
          refine OL.guard (s := 52) rfl (fun g13_3 => ?_) (fun g13_3 => ?_)
          · have ng13_3 := g13_3
            repeat (first | replace ng13_3 := yes ng13_3 | replace ng13_3 := no ng13_3 | replace ng13_3 := nyes ng13_3 | replace ng13_3 := nno ng13_3)
            exfalso
            exact ng13_3 rfl
          · have ng13_3 := g13_3
            repeat (first | replace ng13_3 := yes ng13_3 | replace ng13_3 := no ng13_3 | replace ng13_3 := nyes ng13_3 | replace ng13_3 := nno ng13_3)
            refine OL.on g13_3 rfl rfl ?_
            refine OL.q (Y.move rfl) rfl ?_
            refine OL.on g13_3 rfl rfl ?_
            refine OL.q (Y.move rfl) rfl ?_
            refine OL.on g13_3 rfl rfl ?_
            refine OL.q (Y.neq rfl rfl) rfl ?_
            refine OL.q (Y.pickF rfl g13_3 rfl) rfl ?_
            refine OL.q (Y.move rfl) rfl ?_
            refine OL.guard (s := 57) rfl (fun g13_8 => ?_) (fun g13_8 => ?_)
            · have ng13_8 := g13_8
              repeat (first | replace ng13_8 := yes ng13_8 | replace ng13_8 := no ng13_8 | replace ng13_8 := nyes ng13_8 | replace ng13_8 := nno ng13_8)
              exfalso
              exact ng13_8 rfl
            · have ng13_8 := g13_8
              repeat (first | replace ng13_8 := yes ng13_8 | replace ng13_8 := no ng13_8 | replace ng13_8 := nyes ng13_8 | replace ng13_8 := nno ng13_8)
              refine OL.on g13_8 rfl rfl ?_
              refine OL.q (Y.move rfl) rfl ?_
              refine OL.on g13_8 rfl rfl ?_
              refine OL.q (Y.neq rfl rfl) rfl ?_
              refine OL.on g13_8 rfl rfl ?_
              refine OL.q (Y.move rfl) rfl ?_
              refine OL.guard (s := 60) rfl (fun g13_11 => ?_) (fun g13_11 => ?_)
              · have ng13_11 := g13_11
                repeat (first | replace ng13_11 := yes ng13_11 | replace ng13_11 := no ng13_11 | replace ng13_11 := nyes ng13_11 | replace ng13_11 := nno ng13_11)
                refine OL.on g13_11 rfl rfl ?_
                refine OL.q (Y.move rfl) rfl ?_
                refine OL.on g13_11 rfl rfl ?_
                refine OL.call [] (Len_w t1 (A.term x.term.q).2.2) Tryd.call18 rfl rfl rfl rfl (Ent.at 0 rfl (Up.arena _ _) (fun _ h => h)) rfl ?_
                rintro _ _ ⟨rfl, rfl⟩
                refine ⟨rfl, rfl, ?_⟩
                refine OL.on g13_11 rfl rfl ?_
                refine OL.q (Y.move rfl) rfl ?_
                refine OL.on g13_11 rfl rfl ?_
                refine OL.q (Y.neq rfl rfl) rfl ?_
                refine OL.on g13_8 rfl rfl ?_
                refine OL.q (Y.pickT rfl g13_11 rfl) rfl ?_
                refine OL.q (Y.pickF rfl g13_8 rfl) rfl ?_
                refine OL.nil ?_
                refine EX.seq ?_
                refine CW.cond rfl (fun h6 => ?_) (fun h6 => ?_)
                · repeat (first | replace h6 := yes h6 | replace h6 := no h6 | replace h6 := nyes h6 | replace h6 := nno h6)
                  exfalso
                  rw [term_err ng13_11] at h6; exact h6 rfl
                repeat (first | replace h6 := yes h6 | replace h6 := no h6 | replace h6 := nyes h6 | replace h6 := nno h6)
                refine CW.skip ?_
                refine EX.norB ?_
                refine EX.norB ?_
                refine EX.seq ?_
                refine CW.region ?_
                first | refine OL.q (Y.add1 rfl rfl rfl (by omega)) rfl ?_ | refine OL.q (Y.addN rfl rfl (by omega)) rfl ?_ | refine OL.q (Y.add rfl rfl (by omega)) rfl ?_
                refine OL.q (Y.move rfl) rfl ?_
                refine OL.nil ?_
                exact EX.next (k + 1) [0, 1] ((by omega)) (by first | omega | (dsimp only; omega)) ⟨rfl, rfl, rfl, rfl, rfl, trivial⟩ rfl (by show [_, _] = [_, _]; rw [take_snoc (mget ActC.q hp), laid_snoc, hA, act_term (show ¬ x.q.what = 0 from h3) (show ¬ x.q.what = 1 from h5)]; rfl)
              · have ng13_11 := g13_11
                repeat (first | replace ng13_11 := yes ng13_11 | replace ng13_11 := no ng13_11 | replace ng13_11 := nyes ng13_11 | replace ng13_11 := nno ng13_11)
                refine OL.no g13_11 rfl rfl rfl ?_
                refine OL.no g13_11 rfl rfl rfl ?_
                refine OL.no g13_11 rfl rfl rfl ?_
                refine OL.no g13_11 rfl rfl rfl ?_
                refine OL.on g13_8 rfl rfl ?_
                refine OL.q (Y.pickF rfl g13_11 rfl) rfl ?_
                refine OL.q (Y.pickF rfl g13_8 rfl) rfl ?_
                refine OL.nil ?_
                refine EX.seq ?_
                refine CW.condF rfl (rfl) ?_
                refine CW.skip ?_
                refine EX.norB ?_
                refine EX.norB ?_
                refine EX.seq ?_
                refine CW.region ?_
                first | refine OL.q (Y.add1 rfl rfl rfl (by omega)) rfl ?_ | refine OL.q (Y.addN rfl rfl (by omega)) rfl ?_ | refine OL.q (Y.add rfl rfl (by omega)) rfl ?_
                refine OL.q (Y.move rfl) rfl ?_
                refine OL.nil ?_
                exact EX.next (k + 1) [0, 1] ((by omega)) (by first | omega | (dsimp only; omega)) ⟨rfl, rfl, rfl, rfl, rfl, trivial⟩ rfl (by show [_, _] = [_, _]; rw [take_snoc (mget ActC.q hp), laid_snoc, hA, act_term (show ¬ x.q.what = 0 from h3) (show ¬ x.q.what = 1 from h5)]; rfl)
    · have bh2 := h2
      repeat (first | replace h2 := yes h2 | replace h2 := no h2 | replace h2 := nyes h2 | replace h2 := nno h2)
      have hkn : n = k := by omega
      subst hkn
      rw [List.take_of_length_le (by simp; omega)]
      have hAl := laid_len 500 (l.map ActC.q)
      rw [List.length_map] at hAl
      generalize laid 500 (l.map ActC.q) = A at hAl ⊢
      have hnbl := nb_le A.terms.length
      refine CW.exit ?_
      refine EX.exitT ?_
      refine EX.exitT ?_
      refine EX.exitB ?_
      refine EX.seq ?_
      refine CW.seq ?_
      refine CW.region ?_
      refine OL.q (Y.move rfl) rfl ?_
      refine OL.call [] (Buckets_w t1 A) Tryd.call22 rfl rfl rfl rfl (Ent.at 0 rfl (Up.arena _ _) (fun _ h => h)) rfl ?_
      rintro _ _ ⟨ba, bc, bs, M2, rfl, hbl, hbr, rfl⟩
      refine ⟨rfl, rfl, ?_⟩
      refine OL.q (Y.move rfl) rfl ?_
      refine OL.call [] (Buckets_w t2 A) Tryd.call22 rfl rfl rfl rfl (Ent.at 1 rfl (Up.arena _ _) (fun _ h => h)) rfl ?_
      rintro _ _ ⟨ba2, bc2, B, M3, rfl, hBl, hBr, rfl⟩
      refine ⟨rfl, rfl, ?_⟩
      refine OL.q (Y.assign rfl) rfl ?_
      refine OL.q (Y.assign rfl) rfl ?_
      refine OL.nil ?_
      refine EX.seq ?_
      refine CW.seq ?_
      refine CW.region ?_
      refine OL.q (Y.assign rfl) rfl ?_
      refine OL.nil ?_
      refine EX.seq ?_
      refine CW.seq ?_
      refine CW.seq ?_
      refine CW.region ?_
      refine OL.q (Y.move rfl) rfl ?_
      refine OL.q (Y.lenSl Tryd.underlying47 rfl) rfl ?_
      refine OL.q (Y.move rfl) rfl ?_
      refine OL.nil ?_
      refine EX.seq ?_
      refine CW.block ?_
      refine CW.loop (α := Nat) ⟨(fun k => k ≤ nb A.terms.length), (fun k => [(3, Value.pointer (some { block := t1, off := 0 })), (15, Value.slice ba (nb A.terms.length) bc), (16, Value.slice ba2 (nb A.terms.length) bc2), (17, .int .i64 (sumTo (blen A) k : Nat)), (116, Value.int IntKind.i64 ↑(nb A.terms.length)), (117, .int .i64 k)]), (fun k => [arena t1 A, arena t2 A, row ba (nb A.terms.length) bc 28 1 (List.map buckCells bs), imm M2, row ba2 (nb A.terms.length) bc2 28 1 (List.map buckCells B), imm M3])⟩
        (fun k => (nb A.terms.length - k : Nat)) 0 [0, 1, 2, 3, 4, 5] (Nat.zero_le _) ⟨rfl, rfl, rfl, rfl, rfl, rfl, trivial⟩ rfl rfl ?_
      rintro k hk
      dsimp only at hk ⊢
      refine CW.seq ?_
      refine CW.region ?_
      refine OL.q (Y.lss rfl rfl) rfl ?_
      refine OL.nil ?_
      refine EX.seq ?_
      refine CW.seq ?_
      refine CW.cond rfl (fun h7 => ?_) (fun h7 => ?_)
      · have bh7 := h7
        repeat (first | replace h7 := yes h7 | replace h7 := no h7 | replace h7 := nyes h7 | replace h7 := nno h7)
        obtain ⟨u, hu⟩ : ∃ p, bs[k]? = some p := ⟨_, List.getElem?_eq_getElem (by have h9 := congrArg List.length hbl; rw [List.length_map, bucks_num] at h9; omega)⟩
        obtain ⟨w, hw⟩ : ∃ p, B[k]? = some p := ⟨_, List.getElem?_eq_getElem (by have h9 := congrArg List.length hBl; rw [List.length_map, bucks_num] at h9; omega)⟩
        have hul : A.bucks[k]? = some u.l := by rw [← hbl]; exact mget BuckC.l hu
        have hwl : A.bucks[k]? = some w.l := by rw [← hBl]; exact mget BuckC.l hw
        have huw : u.l = w.l := Option.some.inj (hul.symm.trans hwl)
        have hlen := bucks_len hul
        have hst := sumTo_le (f := blen A) (k := k) (n := nb A.terms.length) (by omega)
        rw [blen_all] at hst
        obtain ⟨hur, huc, hun⟩ := hbr u (mem_of hu)
        obtain ⟨hwr, hwc, hwn⟩ := hBr w (mem_of hw)
        refine CW.skip ?_
        refine EX.seq ?_
        refine CW.seq ?_
        refine CW.block ?_
        refine CW.seq ?_
        refine CW.region ?_
        refine OL.q (Y.move rfl) rfl ?_
        refine OL.q (Y.assign rfl) rfl ?_
        refine OL.nil ?_
        refine EX.seq ?_
        refine CW.seq ?_
        refine CW.seq ?_
        refine CW.drawn [(true, 0), (true, 1), (true, 2), (true, 3), (true, 4), (true, 5), (true, 6), (true, 7), (true, 8), (true, 9), (true, 10), (true, 11), (true, 12), (false, 13), (true, 14), (true, 15)] [] [2, 4] mixed (by kernel_rfl) (by repeat (first | exact PanicOk.body | refine PanicOk.then ?_ | refine PanicOk.block ?_)) (by kernel_rfl) rfl rfl rfl rfl ?_
        refine OL.qt (Y.move rfl) rfl ?_
        refine OL.qt (Y.move rfl) rfl ?_
        refine OL.qt (Y.lenSl Tryd.underlying47 rfl) rfl ?_
        refine OL.qt (Y.geq rfl rfl) rfl ?_
        refine OL.qt (Y.move rfl) rfl ?_
        refine OL.guard (s := 124) rfl (fun g30_4 => ?_) (fun g30_4 => ?_)
        · have ng30_4 := g30_4
          repeat (first | replace ng30_4 := yes ng30_4 | replace ng30_4 := no ng30_4 | replace ng30_4 := nyes ng30_4 | replace ng30_4 := nno ng30_4)
          exfalso
          first | omega | contradiction | exact absurd rfl ng30_4 | exact absurd ng30_4 (by simp) | exact absurd ng30_4 (by decide)
        · have ng30_4 := g30_4
          repeat (first | replace ng30_4 := yes ng30_4 | replace ng30_4 := no ng30_4 | replace ng30_4 := nyes ng30_4 | replace ng30_4 := nno ng30_4)
          refine OL.ont g30_4 rfl rfl ?_
          refine OL.qt (Y.move rfl) rfl ?_
          refine OL.ont g30_4 rfl rfl ?_
          refine OL.qt (Y.move rfl) rfl ?_
          refine OL.ont g30_4 rfl rfl ?_
          refine OL.qt (Y.index (k := k) Tryd.underlying47 C28 rfl rfl (Ent.at 0 rfl (Up.rd _ _ _ _) row_rd) rfl (by omega)) rfl ?_
          refine OL.ont g30_4 rfl rfl ?_
          refine OL.qt (Y.load T28 rfl (cellsIs_at0 (rd_at (Ent.at 0 rfl (Up.rd _ _ _ _) row_rd) (mget buckCells hu)) rfl)) rfl ?_
          refine OL.ont g30_4 rfl rfl ?_
          refine OL.qt (Y.move rfl) rfl ?_
          refine OL.ont g30_4 rfl rfl ?_
          refine OL.qt (Y.move rfl) rfl ?_
          refine OL.ont g30_4 rfl rfl ?_
          refine OL.qt (Y.index (k := k) Tryd.underlying47 C28 rfl rfl (Ent.at 1 rfl (Up.rd _ _ _ _) row_rd) rfl (by omega)) rfl ?_
          refine OL.ont g30_4 rfl rfl ?_
          refine OL.qt (Y.load T28 rfl (cellsIs_at0 (rd_at (Ent.at 1 rfl (Up.rd _ _ _ _) row_rd) (mget buckCells hw)) rfl)) rfl ?_
          refine OL.on g30_4 rfl rfl ?_
          refine OL.call [] (sameInts_any u.a w.a u.n u.c w.n w.c u.l w.l hun hwn (by omega)) Tryd.call26 rfl rfl rfl rfl (Ent.and (Ent.at 3 rfl (Up.rd _ _ _ _) (imm_ent (Up.rd _ _ _ _) hur)) (Ent.at 5 rfl (Up.rd _ _ _ _) (imm_ent (Up.rd _ _ _ _) hwr))) rfl ?_
          rw [decide_eq_true huw]
          rintro _ _ ⟨rfl, rfl⟩
          refine ⟨rfl, rfl, ?_⟩
          refine OL.ont g30_4 rfl rfl ?_
          refine OL.qt (Y.not rfl) rfl ?_
          refine OL.qt (Y.pickF rfl g30_4 rfl) rfl ?_
          refine OL.nil ?_
          refine EX.tail ?_
          refine OL.nil ?_
          refine EX.seq ?_
          refine CW.cond rfl (fun h8 => ?_) (fun h8 => ?_)
          · repeat (first | replace h8 := yes h8 | replace h8 := no h8 | replace h8 := nyes h8 | replace h8 := nno h8)
            exfalso
            first | omega | contradiction | exact absurd rfl h8 | exact absurd h8 (by simp) | exact absurd h8 (by decide)
          repeat (first | replace h8 := yes h8 | replace h8 := no h8 | replace h8 := nyes h8 | replace h8 := nno h8)
          refine CW.skip ?_
          refine EX.seq ?_
          refine CW.region ?_
          refine OL.q (Y.move rfl) rfl ?_
          refine OL.q (Y.move rfl) rfl ?_
          refine OL.q (Y.move rfl) rfl ?_
          refine OL.q (Y.index (k := k) Tryd.underlying47 C28 rfl rfl (Ent.at 2 rfl (Up.rd _ _ _ _) row_rd) rfl (by omega)) rfl ?_
          refine OL.q (Y.load T28 rfl (cellsIs_at0 (rd_at (Ent.at 2 rfl (Up.rd _ _ _ _) row_rd) (mget buckCells hu)) rfl)) rfl ?_
          refine OL.q (Y.lenSl Tryd.underlying28 rfl) rfl ?_
          first | refine OL.q (Y.add1 rfl rfl rfl (by omega)) rfl ?_ | refine OL.q (Y.addN rfl rfl (by omega)) rfl ?_ | refine OL.q (Y.add rfl rfl (by omega)) rfl ?_
          refine OL.q (Y.assign rfl) rfl ?_
          refine OL.nil ?_
          refine EX.norB ?_
          refine EX.seq ?_
          refine CW.region ?_
          first | refine OL.q (Y.add1 rfl rfl rfl (by omega)) rfl ?_ | refine OL.q (Y.addN rfl rfl (by omega)) rfl ?_ | refine OL.q (Y.add rfl rfl (by omega)) rfl ?_
          refine OL.q (Y.move rfl) rfl ?_
          refine OL.nil ?_
          have hsum : sumTo (blen A) (k + 1) = sumTo (blen A) k + u.n := by rw [← hun, blen_at hul]; rfl
          exact EX.next (k + 1) [0, 1, 2, 3, 4, 5] (by first | omega | (dsimp only; omega)) (by first | omega | (dsimp only; omega)) (by simp only [hsum]; exact ⟨rfl, rfl, rfl, rfl, rfl, rfl, trivial⟩) rfl rfl
      · have bh7 := h7
        repeat (first | replace h7 := yes h7 | replace h7 := no h7 | replace h7 := nyes h7 | replace h7 := nno h7)
        have hkn : k = nb A.terms.length := by omega
        subst hkn
        rw [blen_all]
        refine CW.exit ?_
        refine EX.exitT ?_
        refine EX.exitT ?_
        refine EX.exitB ?_
        refine EX.seq ?_
        refine CW.seq ?_
        refine CW.region ?_
        refine OL.q (Y.move rfl) rfl ?_
        refine OL.q (Y.lenSl Tryd.underlying47 rfl) rfl ?_
        refine OL.q (Y.move rfl) rfl ?_
        refine OL.q (Y.lenSl Tryd.underlying47 rfl) rfl ?_
        refine OL.q (Y.eql rfl rfl) rfl ?_
        refine OL.q (Y.move rfl) rfl ?_
        refine OL.guard (s := 149) rfl (fun g34_5 => ?_) (fun g34_5 => ?_)
        · have ng34_5 := g34_5
          repeat (first | replace ng34_5 := yes ng34_5 | replace ng34_5 := no ng34_5 | replace ng34_5 := nyes ng34_5 | replace ng34_5 := nno ng34_5)
          refine OL.on g34_5 rfl rfl ?_
          refine OL.q (Y.move rfl) rfl ?_
          refine OL.on g34_5 rfl rfl ?_
          refine OL.q (Y.move rfl) rfl ?_
          refine OL.on g34_5 rfl rfl ?_
          refine OL.call [] (Len_w t1 A) Tryd.call18 rfl rfl rfl rfl (Ent.at 0 rfl (Up.arena _ _) (fun _ h => h)) rfl ?_
          rintro _ _ ⟨rfl, rfl⟩
          refine ⟨rfl, rfl, ?_⟩
          refine OL.on g34_5 rfl rfl ?_
          refine OL.q (Y.eql rfl rfl) rfl ?_
          refine OL.q (Y.pickT rfl g34_5 rfl) rfl ?_
          refine OL.q (Y.assign rfl) rfl ?_
          refine OL.nil ?_
          refine EX.seq ?_
          refine CW.ret ?_
          exact EX.fin1 [] rfl rfl rfl ⟨by rw [decide_eq_true rfl], rfl⟩
        · have ng34_5 := g34_5
          repeat (first | replace ng34_5 := yes ng34_5 | replace ng34_5 := no ng34_5 | replace ng34_5 := nyes ng34_5 | replace ng34_5 := nno ng34_5)
          exfalso
          exact ng34_5 rfl
end Go.Proofs.YtmlnnepgigieaaaDoor
