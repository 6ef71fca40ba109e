/- Buckets: how they lie, and what stands in which. -/
import Derived.Test.YtmlnnepgigieaaaDoorDagF
import Derived.OpenShut
namespace Go.Proofs.YtmlnnepgigieaaaDoor
open Go.Sx




theorem sl_mid : ∀ (A : List HP) {X Y : List HP}, (∀ k, sl X k → sl Y k) → ∀ {h : PH}, sl (A ++ X) h → sl (A ++ Y) h
  | [], _, _, hxy, _, hs => hxy _ hs
  | _ :: A, _, _, hxy, _, hs => sl.tail_mono (fun _ hk => sl_mid A hxy hk) hs
/-- One of many chunks, taken out; laid back. -/
theorem star_out {A C L1 L2 : List HP} {p : HP} {h : PH} (hs : sl (A ++ star (L1 ++ p :: L2) :: C) h) : sl (A ++ star L1 :: p :: star L2 :: C) h := sl_mid A (fun k hk => by
  have h1 : sl (L1 ++ (p :: (L2 ++ C))) k := by simpa using sl_star.1 hk
  exact sl_star.2 (sl_mid L1 (fun _ h2 => sl.tail_mono (fun _ h3 => sl_star.2 h3) h2) h1)) hs
theorem star_in {A C L1 L2 : List HP} {p : HP} {h : PH} (hs : sl (A ++ star L1 :: p :: star L2 :: C) h) : sl (A ++ star (L1 ++ p :: L2) :: C) h := sl_mid A (fun k hk => by
  refine sl_star.2 ?_
  have h1 := sl_mid L1 (fun _ h2 => sl.tail_mono (fun _ h3 => sl_star.1 h3) h2) (sl_star.1 hk)
  simpa using h1) hs
theorem mixI_bd (h n : Int) : 0 ≤ mixI h n ∧ mixI h n < 18446744073709551616 := by
  have := bounds_u64 (wf_wrap .u64 (bits .xor .u64 h n * 1099511628211))
  unfold mixI
  omega
theorem hash_bd (x : TermC) : 0 ≤ hashT x ∧ hashT x < 18446744073709551616 := by
  have key : ∀ (l : List Int) (h : Int), (0 ≤ h ∧ h < 18446744073709551616) → 0 ≤ hashOver h l ∧ hashOver h l < 18446744073709551616 := by
    intro l
    induction l with
    | nil => exact fun h hh => hh
    | cons n l ih => exact fun h _ => ih _ (mixI_bd _ _)
  exact key _ _ (by decide)
/-- In which of n buckets a hash stands. -/
def hix (h : Int) (n : Nat) : Nat := h.toNat % n
theorem hix_eq {h : Int} {n : Nat} (hh : 0 ≤ h ∧ h < 18446744073709551616) (hn : n ≤ 100000000) : h.tmod (IntKind.u64.wrap (n : Int)) = (hix h n : Nat) := by
  have e1 : IntKind.u64.wrap (n : Int) = n := by simp [IntKind.wrap, IntKind.signed, IntKind.bits]; omega
  rw [e1]
  obtain ⟨k, rfl⟩ := Int.eq_ofNat_of_zero_le hh.1
  rfl
theorem hix_lt {h : Int} {n : Nat} (hn : 0 < n) : hix h n < n := Nat.mod_lt _ hn
/-- What stands in a bucket: the places of the terms of its hashes, in order. -/
def bucketOf (n : Nat) (hs : List Int) (i : Nat) : List Int := ((List.range hs.length).filter fun j => decide (hix (hs.getD j 0) n = i)).map fun j : Nat => (j : Int)
theorem bucket_nil (n i : Nat) : bucketOf n [] i = [] := rfl
theorem bucket_snoc (n : Nat) (hs : List Int) (h : Int) (i : Nat) : bucketOf n (hs ++ [h]) i = bucketOf n hs i ++ (if hix h n = i then [(hs.length : Int)] else []) := by
  unfold bucketOf
  rw [List.length_append, List.length_singleton, List.range_succ, List.filter_append, List.map_append]
  congr 1
  · congr 1
    refine List.filter_congr fun j hj => ?_
    have hj' : j < hs.length := List.mem_range.1 hj
    simp [List.getD_eq_getElem?_getD, List.getElem?_append_left hj']
  · by_cases hi : hix h n = i <;> simp [hi]
/-- The buckets hold what they should. -/
def Bucks (n : Nat) (hs : List Int) (B : List BuckC) : Prop := B.length = n ∧ ∀ i b, B[i]? = some b → b.l = bucketOf n hs i
theorem bucks_put {n : Nat} {hs : List Int} {B1 B2 : List BuckC} {b b' : BuckC} {h : Int} (hB : Bucks n hs (B1 ++ b :: B2)) (hi : hix h n = B1.length) (hl : b'.l = b.l ++ [(hs.length : Int)]) : Bucks n (hs ++ [h]) (B1 ++ b' :: B2) := by
  refine ⟨by have := hB.1; simp at this ⊢; exact this, fun i c hc => ?_⟩
  rw [bucket_snoc]
  by_cases he : i = B1.length
  · subst he
    rw [if_pos hi]
    have h1 : (B1 ++ b :: B2)[B1.length]? = some b := by simp
    have h2 : (B1 ++ b' :: B2)[B1.length]? = some b' := by simp
    rw [h2] at hc; cases hc
    rw [hl, hB.2 _ _ h1]
  · rw [if_neg (by omega), List.append_nil]
    refine hB.2 i c ?_
    rw [← hc]
    by_cases hlt : i < B1.length
    · rw [List.getElem?_append_left hlt, List.getElem?_append_left hlt]
    · rw [List.getElem?_append_right (by omega), List.getElem?_append_right (by omega)]
      cases hk : i - B1.length with
      | zero => omega
      | succ j => simp
theorem cut_at {α : Type _} {l : List α} {i : Nat} {x : α} (h : l[i]? = some x) : ∃ l1 l2, l = l1 ++ x :: l2 ∧ l1.length = i := by
  obtain ⟨hl, rfl⟩ := List.getElem?_eq_some_iff.1 h
  exact ⟨l.take i, l.drop (i + 1), by rw [← List.drop_eq_getElem_cons hl, List.take_append_drop], by simp; omega⟩


theorem result_gen (t : Nat) (S : DagS) (v : DagV) (M : PH) (x : TermC) (hx : x.Ok M) (hfun : x.op = 3 → ∃ (m : Nat) (f : FunC), x.fn = m ∧ S.funs[m]? = some f ∧ m < v.fn) (hite : x.op = 10 → ∃ (kd : Int) (m : Nat) (z : Int), x.kids[1]? = some kd ∧ kd = m ∧ S.of[m]? = some z ∧ m < v.on ∧ 1 < x.n) :
    FS Tryd.prog 89 [.pointer (some ⟨t, 0, none⟩), termVal x] (fun h => sl (dagR t S v M) h) [] (fun r H => r = .int .i64 (resE S x) ∧ H = []) := by
  refine FS.intro (N := 35) Tryd.func89 rfl rfl rfl (fun F w0 hF => ?_)
  obtain ⟨hxr, hxc, hxl⟩ := hx
  refine CW.seq ?_
  refine CW.region ?_
  refine OL.box rfl rfl rfl (fun b3 => ⟨rfl, rfl, ?_⟩)
  refine OL.q (Y.assign rfl) rfl ?_
  refine OL.nil ?_
  refine EX.seq ?_
  refine CW.seq ?_
  refine CW.seq ?_
  refine CW.region ?_
  refine OL.q (Y.field L30_0 rfl) rfl ?_
  refine OL.q (Y.load T3 rfl (Ent.at 0 rfl (Up.cellIs _ _ _) (blk_cell rfl))) rfl ?_
  refine OL.nil ?_
  refine EX.seq ?_
  refine CW.block ?_
  refine CW.seq ?_
  refine CW.region ?_
  refine OL.q (Y.eql rfl rfl) rfl ?_
  refine OL.q (Y.assign rfl) rfl ?_
  refine OL.nil ?_
  refine EX.seq ?_
  refine CW.cond rfl (fun h0 => ?_) (fun h0 => ?_)
  · repeat (first | replace h0 := yes h0 | replace h0 := no h0 | replace h0 := nyes h0 | replace h0 := nno h0)
    obtain ⟨m, f, hm, hfm, hml⟩ := hfun h0
    have hfa : funAt S x.fn = f := by rw [hm]; exact funAt_is hfm
    refine CW.seq ?_
    refine CW.drawn [(true, 0), (true, 1), (true, 2), (true, 3), (true, 4), (true, 5), (true, 6), (true, 7), (true, 8)] [9] [0] mixed (by kernel_rfl) (by repeat (first | exact PanicOk.body | refine PanicOk.then ?_ | refine PanicOk.block ?_)) (by kernel_rfl) rfl rfl rfl rfl ?_
    refine OL.qt (Y.move rfl) rfl ?_
    refine OL.qt (Y.nilCheck rfl) rfl ?_
    refine OL.qt (Y.field L97_3 rfl) rfl ?_
    refine OL.qt (Y.load T55 rfl (Ent.via hF (Up.cellIs _ _ _) (Ent.at 0 rfl (Up.cellIs _ _ _) (blk_cell rfl)))) rfl ?_
    refine OL.qt (Y.field L30_1 rfl) rfl ?_
    refine OL.qt (Y.load T3 rfl (Ent.at 0 rfl (Up.cellIs _ _ _) (blk_cell rfl))) rfl ?_
    refine OL.qt (Y.index (k := m) Tryd.underlying55 C38 rfl rfl (Ent.via hF (Up.rd _ _ _ _) (Ent.at 3 rfl (Up.rd _ _ _ _) row_rd)) hm hml) rfl ?_
    refine OL.qt (Y.field L38_2 rfl) rfl ?_
    refine OL.qt (Y.load T3 rfl (cellsIs_at (rd_at (Ent.via hF (Up.rd _ _ _ _) (Ent.at 3 rfl (Up.rd _ _ _ _) row_rd)) (mget funCells hfm)) rfl)) rfl ?_
    refine OL.nil ?_
    refine EX.tail ?_
    refine OL.q (Y.assign rfl) rfl ?_
    refine OL.nil ?_
    refine EX.seq ?_
    refine CW.ret ?_
    refine EX.retB ?_
    refine EX.retT ?_
    exact EX.fin1 [] rfl rfl rfl ⟨by unfold resE; rw [if_pos h0, hfa], rfl⟩
  · repeat (first | replace h0 := yes h0 | replace h0 := no h0 | replace h0 := nyes h0 | replace h0 := nno h0)
    refine CW.seq ?_
    refine CW.region ?_
    refine OL.q (Y.eql rfl rfl) rfl ?_
    refine OL.q (Y.assign rfl) rfl ?_
    refine OL.nil ?_
    refine EX.seq ?_
    refine CW.cond rfl (fun h1 => ?_) (fun h1 => ?_)
    · repeat (first | replace h1 := yes h1 | replace h1 := no h1 | replace h1 := nyes h1 | replace h1 := nno h1)
      obtain ⟨kd, m, z, hkd, hm, hz, hmo, hx1⟩ := hite h1
      refine CW.seq ?_
      refine CW.drawn [(true, 0), (true, 1), (true, 2), (true, 3), (true, 4), (true, 5), (true, 6), (true, 7), (true, 8), (true, 9)] [10] [0] mixed (by kernel_rfl) (by repeat (first | exact PanicOk.body | refine PanicOk.then ?_ | refine PanicOk.block ?_)) (by kernel_rfl) rfl rfl rfl rfl ?_
      refine OL.qt (Y.move rfl) rfl ?_
      refine OL.qt (Y.nilCheck rfl) rfl ?_
      refine OL.qt (Y.field L97_5 rfl) rfl ?_
      refine OL.qt (Y.load T28 rfl (Ent.via hF (Up.cellIs _ _ _) (Ent.at 0 rfl (Up.cellIs _ _ _) (blk_cell rfl)))) rfl ?_
      refine OL.qt (Y.field L30_2 rfl) rfl ?_
      refine OL.qt (Y.load T28 rfl (Ent.at 0 rfl (Up.cellIs _ _ _) (blk_cell rfl))) rfl ?_
      refine OL.qt (Y.index (k := 1) Tryd.underlying28 C3 rfl rfl (Ent.via hF (Up.rd _ _ _ _) (Ent.at 9 rfl (Up.rd _ _ _ _) (imm_ent (Up.rd _ _ _ _) hxr))) (by omega) (by omega)) rfl ?_
      refine OL.qt (Y.load T3 rfl (cellsIs_at0 (rd_at (Ent.via hF (Up.rd _ _ _ _) (Ent.at 9 rfl (Up.rd _ _ _ _) (imm_ent (Up.rd _ _ _ _) hxr))) (mget intCells hkd)) rfl)) rfl ?_
      refine OL.qt (Y.index (k := m) Tryd.underlying28 C3 rfl rfl (Ent.via hF (Up.rd _ _ _ _) (Ent.at 5 rfl (Up.rd _ _ _ _) row_rd)) hm (by omega)) rfl ?_
      refine OL.qt (Y.load T3 rfl (cellsIs_at0 (rd_at (Ent.via hF (Up.rd _ _ _ _) (Ent.at 5 rfl (Up.rd _ _ _ _) row_rd)) (mget intCells hz)) rfl)) rfl ?_
      refine OL.nil ?_
      refine EX.tail ?_
      refine OL.q (Y.assign rfl) rfl ?_
      refine OL.nil ?_
      refine EX.seq ?_
      refine CW.ret ?_
      refine EX.retB ?_
      refine EX.retT ?_
      exact EX.fin1 [] rfl rfl rfl ⟨by unfold resE; rw [if_neg h0, if_pos h1, getD_at hkd, hm, ofAt_is hz], rfl⟩
    · repeat (first | replace h1 := yes h1 | replace h1 := no h1 | replace h1 := nyes h1 | replace h1 := nno h1)
      refine CW.seq ?_
      refine CW.seq ?_
      refine CW.region ?_
      refine OL.q (Y.eql rfl rfl) rfl ?_
      refine OL.q (Y.assign rfl) rfl ?_
      refine OL.nil ?_
      refine EX.seq ?_
      refine CW.cond rfl (fun h2 => ?_) (fun h2 => ?_)
      · repeat (first | replace h2 := yes h2 | replace h2 := no h2 | replace h2 := nyes h2 | replace h2 := nno h2)
        refine CW.skip ?_
        refine EX.seq ?_
        refine CW.cond rfl (fun h5 => ?_) (fun h5 => ?_)
        rotate_left
        · repeat (first | replace h5 := yes h5 | replace h5 := no h5 | replace h5 := nyes h5 | replace h5 := nno h5)
          exfalso
          first | omega | contradiction | exact absurd rfl h5 | exact absurd h5 (by simp) | exact absurd h5 (by decide)
        repeat (first | replace h5 := yes h5 | replace h5 := no h5 | replace h5 := nyes h5 | replace h5 := nno h5)
        refine CW.seq ?_
        refine CW.region ?_
        refine OL.q (Y.assign rfl) rfl ?_
        refine OL.nil ?_
        refine EX.seq ?_
        refine CW.ret ?_
        refine EX.retB ?_
        refine EX.retT ?_
        exact EX.fin1 [] rfl rfl rfl ⟨by unfold resE; rw [if_neg h0, if_neg h1, if_pos (by omega)], rfl⟩
      · repeat (first | replace h2 := yes h2 | replace h2 := no h2 | replace h2 := nyes h2 | replace h2 := nno h2)
        refine CW.seq ?_
        refine CW.region ?_
        refine OL.q (Y.eql rfl rfl) rfl ?_
        refine OL.q (Y.assign rfl) rfl ?_
        refine OL.nil ?_
        refine EX.seq ?_
        refine CW.cond rfl (fun h3 => ?_) (fun h3 => ?_)
        · repeat (first | replace h3 := yes h3 | replace h3 := no h3 | replace h3 := nyes h3 | replace h3 := nno h3)
          refine CW.skip ?_
          refine EX.seq ?_
          refine CW.cond rfl (fun h5 => ?_) (fun h5 => ?_)
          rotate_left
          · repeat (first | replace h5 := yes h5 | replace h5 := no h5 | replace h5 := nyes h5 | replace h5 := nno h5)
            exfalso
            first | omega | contradiction | exact absurd rfl h5 | exact absurd h5 (by simp) | exact absurd h5 (by decide)
          repeat (first | replace h5 := yes h5 | replace h5 := no h5 | replace h5 := nyes h5 | replace h5 := nno h5)
          refine CW.seq ?_
          refine CW.region ?_
          refine OL.q (Y.assign rfl) rfl ?_
          refine OL.nil ?_
          refine EX.seq ?_
          refine CW.ret ?_
          refine EX.retB ?_
          refine EX.retT ?_
          exact EX.fin1 [] rfl rfl rfl ⟨by unfold resE; rw [if_neg h0, if_neg h1, if_pos (by omega)], rfl⟩
        · repeat (first | replace h3 := yes h3 | replace h3 := no h3 | replace h3 := nyes h3 | replace h3 := nno h3)
          refine CW.seq ?_
          refine CW.region ?_
          refine OL.q (Y.eql rfl rfl) rfl ?_
          refine OL.q (Y.assign rfl) rfl ?_
          refine OL.nil ?_
          refine EX.seq ?_
          refine CW.cond rfl (fun h4 => ?_) (fun h4 => ?_)
          · repeat (first | replace h4 := yes h4 | replace h4 := no h4 | replace h4 := nyes h4 | replace h4 := nno h4)
            refine CW.skip ?_
            refine EX.seq ?_
            refine CW.cond rfl (fun h5 => ?_) (fun h5 => ?_)
            rotate_left
            · repeat (first | replace h5 := yes h5 | replace h5 := no h5 | replace h5 := nyes h5 | replace h5 := nno h5)
              exfalso
              first | omega | contradiction | exact absurd rfl h5 | exact absurd h5 (by simp) | exact absurd h5 (by decide)
            repeat (first | replace h5 := yes h5 | replace h5 := no h5 | replace h5 := nyes h5 | replace h5 := nno h5)
            refine CW.seq ?_
            refine CW.region ?_
            refine OL.q (Y.assign rfl) rfl ?_
            refine OL.nil ?_
            refine EX.seq ?_
            refine CW.ret ?_
            refine EX.retB ?_
            refine EX.retT ?_
            exact EX.fin1 [] rfl rfl rfl ⟨by unfold resE; rw [if_neg h0, if_neg h1, if_pos (by omega)], rfl⟩
          · repeat (first | replace h4 := yes h4 | replace h4 := no h4 | replace h4 := nyes h4 | replace h4 := nno h4)
            refine CW.region ?_
            refine OL.q (Y.eql rfl rfl) rfl ?_
            refine OL.q (Y.assign rfl) rfl ?_
            refine OL.nil ?_
            refine EX.seq ?_
            refine CW.cond rfl (fun h5 => ?_) (fun h5 => ?_)
            · repeat (first | replace h5 := yes h5 | replace h5 := no h5 | replace h5 := nyes h5 | replace h5 := nno h5)
              refine CW.seq ?_
              refine CW.region ?_
              refine OL.q (Y.assign rfl) rfl ?_
              refine OL.nil ?_
              refine EX.seq ?_
              refine CW.ret ?_
              refine EX.retB ?_
              refine EX.retT ?_
              exact EX.fin1 [] rfl rfl rfl ⟨by unfold resE; rw [if_neg h0, if_neg h1, if_pos (by omega)], rfl⟩
            · repeat (first | replace h5 := yes h5 | replace h5 := no h5 | replace h5 := nyes h5 | replace h5 := nno h5)
              refine CW.skip ?_
              refine EX.norB ?_
              refine EX.seq ?_
              refine CW.seq ?_
              refine CW.region ?_
              refine OL.q (Y.assign rfl) rfl ?_
              refine OL.nil ?_
              refine EX.seq ?_
              refine CW.ret ?_
              exact EX.fin1 [] rfl rfl rfl ⟨by unfold resE; rw [if_neg h0, if_neg h1, if_neg (by omega)], rfl⟩
end Go.Proofs.YtmlnnepgigieaaaDoor
