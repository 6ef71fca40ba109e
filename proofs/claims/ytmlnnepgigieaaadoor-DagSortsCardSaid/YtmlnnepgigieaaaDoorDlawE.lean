/- The statement DagSorts. -/
import Derived.Test.YtmlnnepgigieaaaDoorDlawD
namespace Go.Proofs.YtmlnnepgigieaaaDoor
open Go.Sx




/-- No two sorts are one; each stands behind those that it is over. -/
def SortsOk (l : List SortP) : Prop := (∀ (i j : Nat) (s t : SortP), i < j → l[i]? = some s → l[j]? = some t → ¬ (t.name = s.name ∧ t.args = s.args)) ∧ ∀ (k : Nat) (s : SortP), l[k]? = some s → ∀ x ∈ s.args, x < (k : Int)
theorem findP_none {name : ByteArray} {l : List Int} : ∀ {r : List SortP}, findP name l r = none → ∀ s ∈ r, ¬ (s.name = name ∧ s.args = l)
  | [], _, _, h => nomatch h
  | q :: r, h, s, hs => by
    simp only [findP] at h
    split at h
    · cases h
    · rename_i hq
      simp only [Option.map_eq_none_iff] at h
      rcases List.mem_cons.1 hs with rfl | hs
      · exact hq
      · exact findP_none h s hs
theorem findP_some {name : ByteArray} {l : List Int} : ∀ {r : List SortP} {k : Nat}, findP name l r = some k → r[k]? = some ⟨name, l⟩
  | q :: r, k, h => by
    simp only [findP] at h
    split at h
    · rename_i hq; cases h
      obtain ⟨a, b⟩ := q
      obtain ⟨rfl, rfl⟩ := hq
      rfl
    · cases hf : findP name l r with
      | none => rw [hf] at h; cases h
      | some j => rw [hf] at h; cases h; simpa using findP_some hf
theorem findP_new {name : ByteArray} {l : List Int} : ∀ {r : List SortP}, findP name l r = none → findP name l (r ++ [⟨name, l⟩]) = some r.length
  | [], _ => by simp [findP]
  | q :: r, h => by
    simp only [findP] at h
    split at h
    · cases h
    · rename_i hq
      simp only [Option.map_eq_none_iff] at h
      simp only [List.cons_append, findP, if_neg hq, findP_new h, List.length_cons]
      rfl
theorem SortsOk.sort {A : ArP} (h : SortsOk A.sorts) (name : ByteArray) (l : List Int) : SortsOk (A.sort name l).2.2.sorts := by
  cases hb : l.any (bad A.sorts.length) with
  | true => rw [ArP.sort_bad hb]; exact h
  | false =>
    cases hf : findP name l A.sorts with
    | some k => rw [ArP.sort_old hb hf]; exact h
    | none =>
      rw [ArP.sort_new hb hf]
      refine ⟨fun i j s t hij hi hj => ?_, fun k s hk x hx => ?_⟩
      · have hjl := (List.getElem?_eq_some_iff.1 hj).1
        simp only [List.length_append, List.length_singleton] at hjl
        have hil : i < A.sorts.length := by omega
        simp only [List.getElem?_append_left hil] at hi
        by_cases e : j < A.sorts.length
        · simp only [List.getElem?_append_left e] at hj
          exact h.1 i j s t hij hi hj
        · have : j = A.sorts.length := by omega
          subst this
          simp at hj
          subst hj
          rintro ⟨h1, h2⟩
          exact findP_none hf s (mem_of hi) ⟨h1.symm, h2.symm⟩
      · have hkl := (List.getElem?_eq_some_iff.1 hk).1
        simp only [List.length_append, List.length_singleton] at hkl
        by_cases e : k < A.sorts.length
        · simp only [List.getElem?_append_left e] at hk
          exact h.2 k s hk x hx
        · have : k = A.sorts.length := by omega
          subst this
          simp at hk
          subst hk
          have h9 := List.any_eq_false.1 hb x hx
          have h10 : bad A.sorts.length x = false := by simpa using h9
          exact (bad_false.1 h10).2
/-- A sort that is asked for again is where it was; what is told of a new one. -/
theorem sort_again (A : ArP) (name : ByteArray) (l : List Int) : (A.sort name l).2.2.sort name l = A.sort name l := by
  cases hb : l.any (bad A.sorts.length) with
  | true => rw [ArP.sort_bad hb, ArP.sort_bad hb]
  | false =>
    cases hf : findP name l A.sorts with
    | some k => rw [ArP.sort_old hb hf, ArP.sort_old hb hf]
    | none =>
      rw [ArP.sort_new hb hf]
      refine ArP.sort_old (A := { A with sorts := A.sorts ++ [⟨name, l⟩] }) ?_ (findP_new hf)
      rw [List.any_eq_false]
      intro x hx
      have h9 := List.any_eq_false.1 hb x hx
      have h10 : bad A.sorts.length x = false := by simpa using h9
      obtain ⟨h1, h2⟩ := bad_false.1 h10
      simp only [Bool.not_eq_true]
      exact bad_false.2 ⟨h1, by simp only [List.length_append, List.length_singleton]; omega⟩
theorem sort_told (A : ArP) (name : ByteArray) (l : List Int) : (A.sort name l).2.1 = 2 ∨ ((A.sort name l).2.1 = 0 ∧ ∃ k : Nat, (A.sort name l).1 = k ∧ (A.sort name l).2.2.sorts[k]? = some ⟨name, l⟩) := by
  cases hb : l.any (bad A.sorts.length) with
  | true => rw [ArP.sort_bad hb]; exact .inl rfl
  | false =>
    cases hf : findP name l A.sorts with
    | some k => rw [ArP.sort_old hb hf]; exact .inr ⟨rfl, k, rfl, findP_some hf⟩
    | none => rw [ArP.sort_new hb hf]; exact .inr ⟨rfl, A.sorts.length, rfl, by simp⟩
theorem func_told (A : ArP) (f : FunP) : ((A.func f).2.1 = 2 ∧ (A.func f).2.2 = A) ∨ ((A.func f).2.1 = 0 ∧ (A.func f).1 = (A.funs.length : Nat) ∧ (A.func f).2.2 = { A with funs := A.funs ++ [f] }) := by
  unfold ArP.func
  split
  · exact .inl ⟨rfl, rfl⟩
  · exact .inr ⟨rfl, rfl, rfl⟩
/-- The acts that aren't terms. -/
def ArP.act2 (A : ArP) (x : ActP) : ArP := if x.what = 0 then (A.sort x.name x.args).2.2 else if x.what = 1 then (A.func ⟨x.name, x.args, x.result⟩).2.2 else A
theorem sort_funs (A : ArP) (name : ByteArray) (l : List Int) : (A.sort name l).2.2.funs = A.funs := by
  unfold ArP.sort
  split
  · rfl
  · split <;> rfl
theorem new_sortsOk (m : Int) : SortsOk (ArP.new m).sorts := by
  refine ⟨fun i j s t hij hi hj => ?_, fun k s hk x hx => ?_⟩
  · have hjl := (List.getElem?_eq_some_iff.1 hj).1
    simp only [ArP.new, List.length_cons, List.length_nil] at hjl
    have : i = 0 ∧ j = 1 := by omega
    obtain ⟨rfl, rfl⟩ := this
    simp [ArP.new] at hi hj
    subst hi; subst hj
    rintro ⟨h1, _⟩
    simp at h1
  · have hs := mem_of hk
    simp only [ArP.new, List.mem_cons, List.not_mem_nil, or_false] at hs
    rcases hs with rfl | rfl <;> exact absurd hx (by simp)


set_option maxRecDepth 10000 in
set_option maxHeartbeats 16000000 in
theorem dagSorts_any (a : Option Addr) (n c : Nat) (l : List ActC) (M : PH) (hl : rd a n 8 (l.map actCells) M) (hln : l.length = n) (ho : ∀ x ∈ l, x.Ok M) (htab : tabP M) :
    FS Tryd.prog 6 [.slice a n c] (imm M) [] (fun q H => q = .bool true ∧ H = []) := by
  refine FS.intro (N := 182) Tryd.func6 rfl rfl rfl (fun F w0 hF => ?_)
  refine CW.seq ?_
  refine CW.region ?_
  refine OL.q (Y.assign rfl) rfl ?_
  refine OL.nil ?_
  refine EX.seq ?_
  refine CW.seq ?_
  refine CW.seq ?_
  refine CW.region ?_
  refine OL.call [] (speaks_any) Tryd.call13 rfl rfl rfl rfl (Ent.frame Up.tabP (fun h hs => imm_ent Up.tabP htab h (hF h hs))) rfl ?_
  rintro _ _ ⟨rfl, rfl⟩
  refine ⟨rfl, rfl, ?_⟩
  refine OL.q (Y.not rfl) rfl ?_
  refine OL.nil ?_
  refine EX.seq ?_
  refine CW.cond rfl (fun h0 => ?_) (fun h0 => ?_)
  · repeat (first | replace h0 := yes h0 | replace h0 := no h0 | replace h0 := nyes h0 | replace h0 := nno h0)
    exfalso
    first | omega | contradiction | exact absurd rfl h0 | exact absurd h0 (by simp) | exact absurd h0 (by decide)
  repeat (first | replace h0 := yes h0 | replace h0 := no h0 | replace h0 := nyes h0 | replace h0 := nno h0)
  refine CW.skip ?_
  refine EX.seq ?_
  refine CW.seq ?_
  refine CW.seq ?_
  refine CW.region ?_
  refine OL.q (Y.move rfl) rfl ?_
  refine OL.call [] (great_any a n c l hln (lens ho)) Tryd.call14 rfl rfl rfl rfl (Ent.frame (Up.rd _ _ _ _) (fun h hs => imm_ent (Up.rd _ _ _ _) hl h (hF h hs))) rfl ?_
  rintro _ _ ⟨rfl, rfl⟩
  refine ⟨rfl, rfl, ?_⟩
  refine OL.nil ?_
  refine EX.seq ?_
  refine CW.cond rfl (fun h1 => ?_) (fun h1 => ?_)
  · have bh1 := h1
    repeat (first | replace h1 := yes h1 | replace h1 := no h1 | replace h1 := nyes h1 | replace h1 := nno h1)
    refine CW.seq ?_
    refine CW.region ?_
    refine OL.q (Y.assign rfl) rfl ?_
    refine OL.nil ?_
    refine EX.seq ?_
    refine CW.ret ?_
    refine EX.retT ?_
    exact EX.fin1 [] rfl rfl rfl ⟨rfl, rfl⟩
  · have bh1 := h1
    repeat (first | replace h1 := yes h1 | replace h1 := no h1 | replace h1 := nyes h1 | replace h1 := nno h1)
    have hg : greatP (l.map ActC.q) = false := h1
    have hl80 := small_len hg
    refine CW.skip ?_
    refine EX.seq ?_
    refine CW.seq ?_
    refine CW.region ?_
    refine OL.call [] (New_w 10) Tryd.call15 rfl rfl rfl rfl (Ent.frame Up.tabP (fun h hs => imm_ent Up.tabP htab h (hF h hs))) rfl ?_
    rintro _ _ ⟨t, rfl, rfl⟩
    refine ⟨rfl, rfl, ?_⟩
    refine OL.q (Y.assign rfl) rfl ?_
    refine OL.nil ?_
    refine EX.seq ?_
    refine CW.seq ?_
    refine CW.region ?_
    refine OL.buildSlice ([]) Tryd.underlying55 C38 (by decide) rfl (by decide) rfl rfl rfl (fun b24 => ⟨rfl, rfl, ?_⟩)
    refine OL.q (Y.assign rfl) rfl ?_
    refine OL.nil ?_
    refine EX.seq ?_
    refine CW.seq ?_
    refine CW.seq ?_
    refine CW.region ?_
    refine OL.q (Y.move rfl) rfl ?_
    refine OL.q (Y.lenSl Tryd.underlying22 rfl) rfl ?_
    refine OL.q (Y.move rfl) rfl ?_
    refine OL.nil ?_
    refine EX.seq ?_
    refine CW.block ?_
    refine CW.loop (α := Nat × ArP × List FunC × Option Addr × Nat) ⟨(fun q_ => q_.1 ≤ n ∧ SortsOk q_.2.1.sorts ∧ q_.2.1.terms = [] ∧ q_.2.2.1.map FunC.q = q_.2.1.funs ∧ (∀ f ∈ q_.2.2.1, f.Ok M ∧ f.n ≤ 1000000) ∧ q_.2.1.sorts.length ≤ 2 + q_.1 ∧ q_.2.1.funs.length ≤ q_.1), (fun q_ => [(3, Value.pointer (some { block := t, off := 0 })), (4, .slice q_.2.2.2.1 q_.2.1.funs.length q_.2.2.2.2), (25, Value.slice a n c), (26, Value.int IntKind.i64 ↑n), (27, .int .i64 q_.1)]), (fun q_ => [arena t q_.2.1, row q_.2.2.2.1 q_.2.1.funs.length q_.2.2.2.2 38 3 (q_.2.2.1.map funCells)])⟩
      (fun q_ => (n - q_.1 : Nat)) (0, ArP.new 10, [], some ⟨b24, 0, none⟩, 0) [0, 1] ⟨Nat.zero_le _, new_sortsOk 10, rfl, rfl, (fun _ h => nomatch h), Nat.le_refl _, Nat.zero_le _⟩ ⟨rfl, rfl, rfl, rfl, rfl, trivial⟩ rfl rfl ?_
    rintro ⟨k, A, kf, ka, kc⟩ ⟨hk, hSo, hT, hkf, hko, hbd1, hbd2⟩
    dsimp only at hk hSo hT hkf hko hbd1 hbd2 ⊢
    refine CW.seq ?_
    refine CW.region ?_
    refine OL.q (Y.lss rfl rfl) rfl ?_
    refine OL.nil ?_
    refine EX.seq ?_
    refine CW.seq ?_
    refine CW.cond rfl (fun h2 => ?_) (fun h2 => ?_)
    · have bh2 := h2
      repeat (first | replace h2 := yes h2 | replace h2 := no h2 | replace h2 := nyes h2 | replace h2 := nno h2)
      obtain ⟨x, hp⟩ : ∃ p, l[k]? = some p := ⟨_, List.getElem?_eq_getElem (by omega)⟩
      obtain ⟨⟨hxr, hxc, hxl⟩, ⟨hyr, hyc, hyl⟩⟩ := ho x (mem_of hp)
      obtain ⟨_, hs1, hs2, hs3, hs4⟩ := small_act hg hp
      refine CW.skip ?_
      refine EX.seq ?_
      refine CW.seq ?_
      refine CW.block ?_
      refine CW.seq ?_
      refine CW.region ?_
      first | refine OL.q (Y.index Tryd.underlying22 C32 rfl rfl (Ent.at 0 rfl (Up.rd _ _ _ _) row_rd) rfl (by omega)) rfl ?_ | refine OL.q (Y.index Tryd.underlying22 C32 rfl rfl (Ent.at 1 rfl (Up.rd _ _ _ _) row_rd) rfl (by omega)) rfl ?_ | refine OL.q (Y.index Tryd.underlying22 C32 rfl rfl (Ent.at 2 rfl (Up.rd _ _ _ _) row_rd) rfl (by omega)) rfl ?_ | refine OL.q (Y.index Tryd.underlying22 C32 rfl rfl (Ent.at 3 rfl (Up.rd _ _ _ _) row_rd) rfl (by omega)) rfl ?_ | refine OL.q (Y.index Tryd.underlying22 C32 rfl rfl (Ent.at 4 rfl (Up.rd _ _ _ _) row_rd) rfl (by omega)) rfl ?_ | refine OL.q (Y.index Tryd.underlying22 C32 rfl rfl (Ent.at 5 rfl (Up.rd _ _ _ _) row_rd) rfl (by omega)) rfl ?_ | refine OL.q (Y.index Tryd.underlying22 C32 rfl rfl (Ent.at 6 rfl (Up.rd _ _ _ _) row_rd) rfl (by omega)) rfl ?_ | refine OL.q (Y.index Tryd.underlying22 C32 rfl rfl (Ent.at 7 rfl (Up.rd _ _ _ _) row_rd) rfl (by omega)) rfl ?_ | refine OL.q (Y.index Tryd.underlying22 C32 rfl rfl (Ent.at 8 rfl (Up.rd _ _ _ _) row_rd) rfl (by omega)) rfl ?_ | refine OL.q (Y.index Tryd.underlying22 C32 rfl rfl (Ent.frame (Up.rd _ _ _ _) (fun h hs => imm_ent (Up.rd _ _ _ _) (by assumption) h (hF h hs))) rfl (by omega)) rfl ?_
      first | refine OL.q (Y.loadN S32 rfl rfl (Ent.at 0 rfl (Up.cellsIs _ _ _) blk_cells)) rfl ?_ | refine OL.q (Y.loadN S32 rfl rfl (Ent.at 1 rfl (Up.cellsIs _ _ _) blk_cells)) rfl ?_ | refine OL.q (Y.loadN S32 rfl rfl (Ent.at 2 rfl (Up.cellsIs _ _ _) blk_cells)) rfl ?_ | refine OL.q (Y.loadN S32 rfl rfl (Ent.at 3 rfl (Up.cellsIs _ _ _) blk_cells)) rfl ?_ | refine OL.q (Y.loadN S32 rfl rfl (Ent.at 4 rfl (Up.cellsIs _ _ _) blk_cells)) rfl ?_ | refine OL.q (Y.loadN S32 rfl rfl (Ent.at 5 rfl (Up.cellsIs _ _ _) blk_cells)) rfl ?_ | refine OL.q (Y.loadN S32 rfl rfl (Ent.at 6 rfl (Up.cellsIs _ _ _) blk_cells)) rfl ?_ | refine OL.q (Y.loadN S32 rfl rfl (Ent.at 7 rfl (Up.cellsIs _ _ _) blk_cells)) rfl ?_ | refine OL.q (Y.loadN S32 rfl rfl (Ent.at 8 rfl (Up.cellsIs _ _ _) blk_cells)) rfl ?_ | refine OL.q (Y.loadN S32 rfl rfl (rd_at (Ent.at 0 rfl (Up.rd _ _ _ _) row_rd) (mget _ (by assumption)))) rfl ?_ | refine OL.q (Y.loadN S32 rfl rfl (rd_at (Ent.at 1 rfl (Up.rd _ _ _ _) row_rd) (mget _ (by assumption)))) rfl ?_ | refine OL.q (Y.loadN S32 rfl rfl (rd_at (Ent.at 2 rfl (Up.rd _ _ _ _) row_rd) (mget _ (by assumption)))) rfl ?_ | refine OL.q (Y.loadN S32 rfl rfl (rd_at (Ent.at 3 rfl (Up.rd _ _ _ _) row_rd) (mget _ (by assumption)))) rfl ?_ | refine OL.q (Y.loadN S32 rfl rfl (rd_at (Ent.at 4 rfl (Up.rd _ _ _ _) row_rd) (mget _ (by assumption)))) rfl ?_ | refine OL.q (Y.loadN S32 rfl rfl (rd_at (Ent.at 5 rfl (Up.rd _ _ _ _) row_rd) (mget _ (by assumption)))) rfl ?_ | refine OL.q (Y.loadN S32 rfl rfl (rd_at (Ent.at 6 rfl (Up.rd _ _ _ _) row_rd) (mget _ (by assumption)))) rfl ?_ | refine OL.q (Y.loadN S32 rfl rfl (rd_at (Ent.at 7 rfl (Up.rd _ _ _ _) row_rd) (mget _ (by assumption)))) rfl ?_ | refine OL.q (Y.loadN S32 rfl rfl (rd_at (Ent.at 8 rfl (Up.rd _ _ _ _) row_rd) (mget _ (by assumption)))) rfl ?_ | refine OL.q (Y.loadN S32 rfl rfl (rd_at (Ent.frame (Up.rd _ _ _ _) (fun h hs => imm_ent (Up.rd _ _ _ _) (by assumption) h (hF h hs))) (mget _ (by assumption)))) rfl ?_
      refine OL.alloc C32 rfl (fun b6 => ⟨rfl, rfl, ?_⟩)
      first | refine OL.storeAll 0 rfl C32 rfl rfl rfl rfl rfl rfl ⟨rfl, rfl, ?_⟩ | refine OL.storeAll 1 rfl C32 rfl rfl rfl rfl rfl rfl ⟨rfl, rfl, ?_⟩ | refine OL.storeAll 2 rfl C32 rfl rfl rfl rfl rfl rfl ⟨rfl, rfl, ?_⟩ | refine OL.storeAll 3 rfl C32 rfl rfl rfl rfl rfl rfl ⟨rfl, rfl, ?_⟩ | refine OL.storeAll 4 rfl C32 rfl rfl rfl rfl rfl rfl ⟨rfl, rfl, ?_⟩ | refine OL.storeAll 5 rfl C32 rfl rfl rfl rfl rfl rfl ⟨rfl, rfl, ?_⟩ | refine OL.storeAll 6 rfl C32 rfl rfl rfl rfl rfl rfl ⟨rfl, rfl, ?_⟩ | refine OL.storeAll 7 rfl C32 rfl rfl rfl rfl rfl rfl ⟨rfl, rfl, ?_⟩ | refine OL.storeAll 8 rfl C32 rfl rfl rfl rfl rfl rfl ⟨rfl, rfl, ?_⟩
      refine OL.nil ?_
      refine EX.seq ?_
      refine CW.seq ?_
      refine CW.seq ?_
      refine CW.region ?_
      refine OL.q (Y.field L32_0 rfl) rfl ?_
      first | refine OL.q (Y.load T3 rfl (Ent.at 0 rfl (Up.cellIs _ _ _) (blk_cell rfl))) rfl ?_ | refine OL.q (Y.load T3 rfl (Ent.at 1 rfl (Up.cellIs _ _ _) (blk_cell rfl))) rfl ?_ | refine OL.q (Y.load T3 rfl (Ent.at 2 rfl (Up.cellIs _ _ _) (blk_cell rfl))) rfl ?_ | refine OL.q (Y.load T3 rfl (Ent.at 3 rfl (Up.cellIs _ _ _) (blk_cell rfl))) rfl ?_ | refine OL.q (Y.load T3 rfl (Ent.at 4 rfl (Up.cellIs _ _ _) (blk_cell rfl))) rfl ?_ | refine OL.q (Y.load T3 rfl (Ent.at 5 rfl (Up.cellIs _ _ _) (blk_cell rfl))) rfl ?_ | refine OL.q (Y.load T3 rfl (Ent.at 6 rfl (Up.cellIs _ _ _) (blk_cell rfl))) rfl ?_ | refine OL.q (Y.load T3 rfl (Ent.at 7 rfl (Up.cellIs _ _ _) (blk_cell rfl))) rfl ?_ | refine OL.q (Y.load T3 rfl (Ent.at 8 rfl (Up.cellIs _ _ _) (blk_cell rfl))) rfl ?_ | refine OL.q (Y.load T3 rfl (cellsIs_at0 (rd_at (Ent.at 0 rfl (Up.rd _ _ _ _) row_rd) (mget _ (by assumption))) rfl)) rfl ?_ | refine OL.q (Y.load T3 rfl (cellsIs_at (rd_at (Ent.at 0 rfl (Up.rd _ _ _ _) row_rd) (mget _ (by assumption))) rfl)) rfl ?_ | refine OL.q (Y.load T3 rfl (cellsIs_at0 (rd_at (Ent.at 1 rfl (Up.rd _ _ _ _) row_rd) (mget _ (by assumption))) rfl)) rfl ?_ | refine OL.q (Y.load T3 rfl (cellsIs_at (rd_at (Ent.at 1 rfl (Up.rd _ _ _ _) row_rd) (mget _ (by assumption))) rfl)) rfl ?_ | refine OL.q (Y.load T3 rfl (cellsIs_at0 (rd_at (Ent.at 2 rfl (Up.rd _ _ _ _) row_rd) (mget _ (by assumption))) rfl)) rfl ?_ | refine OL.q (Y.load T3 rfl (cellsIs_at (rd_at (Ent.at 2 rfl (Up.rd _ _ _ _) row_rd) (mget _ (by assumption))) rfl)) rfl ?_ | refine OL.q (Y.load T3 rfl (cellsIs_at0 (rd_at (Ent.at 3 rfl (Up.rd _ _ _ _) row_rd) (mget _ (by assumption))) rfl)) rfl ?_ | refine OL.q (Y.load T3 rfl (cellsIs_at (rd_at (Ent.at 3 rfl (Up.rd _ _ _ _) row_rd) (mget _ (by assumption))) rfl)) rfl ?_ | refine OL.q (Y.load T3 rfl (cellsIs_at0 (rd_at (Ent.at 4 rfl (Up.rd _ _ _ _) row_rd) (mget _ (by assumption))) rfl)) rfl ?_ | refine OL.q (Y.load T3 rfl (cellsIs_at (rd_at (Ent.at 4 rfl (Up.rd _ _ _ _) row_rd) (mget _ (by assumption))) rfl)) rfl ?_ | refine OL.q (Y.load T3 rfl (cellsIs_at0 (rd_at (Ent.at 5 rfl (Up.rd _ _ _ _) row_rd) (mget _ (by assumption))) rfl)) rfl ?_ | refine OL.q (Y.load T3 rfl (cellsIs_at (rd_at (Ent.at 5 rfl (Up.rd _ _ _ _) row_rd) (mget _ (by assumption))) rfl)) rfl ?_ | refine OL.q (Y.load T3 rfl (cellsIs_at0 (rd_at (Ent.at 6 rfl (Up.rd _ _ _ _) row_rd) (mget _ (by assumption))) rfl)) rfl ?_ | refine OL.q (Y.load T3 rfl (cellsIs_at (rd_at (Ent.at 6 rfl (Up.rd _ _ _ _) row_rd) (mget _ (by assumption))) rfl)) rfl ?_ | refine OL.q (Y.load T3 rfl (cellsIs_at0 (rd_at (Ent.at 7 rfl (Up.rd _ _ _ _) row_rd) (mget _ (by assumption))) rfl)) rfl ?_ | refine OL.q (Y.load T3 rfl (cellsIs_at (rd_at (Ent.at 7 rfl (Up.rd _ _ _ _) row_rd) (mget _ (by assumption))) rfl)) rfl ?_ | refine OL.q (Y.load T3 rfl (cellsIs_at0 (rd_at (Ent.at 8 rfl (Up.rd _ _ _ _) row_rd) (mget _ (by assumption))) rfl)) rfl ?_ | refine OL.q (Y.load T3 rfl (cellsIs_at (rd_at (Ent.at 8 rfl (Up.rd _ _ _ _) row_rd) (mget _ (by assumption))) rfl)) rfl ?_ | refine OL.q (Y.load T3 rfl (cellsIs_at0 (rd_at (Ent.frame (Up.rd _ _ _ _) (fun h hs => imm_ent (Up.rd _ _ _ _) (by assumption) h (hF h hs))) (mget _ (by assumption))) rfl)) rfl ?_ | refine OL.q (Y.load T3 rfl (cellsIs_at (rd_at (Ent.frame (Up.rd _ _ _ _) (fun h hs => imm_ent (Up.rd _ _ _ _) (by assumption) h (hF h hs))) (mget _ (by assumption))) rfl)) rfl ?_
      refine OL.q (Y.eql rfl rfl) rfl ?_
      refine OL.nil ?_
      refine EX.seq ?_
      refine CW.cond rfl (fun h3 => ?_) (fun h3 => ?_)
      · have bh3 := h3
        repeat (first | replace h3 := yes h3 | replace h3 := no h3 | replace h3 := nyes h3 | replace h3 := nno h3)
        refine CW.seq ?_
        refine CW.region ?_
        refine OL.q (Y.move rfl) rfl ?_
        refine OL.q (Y.field L32_1 rfl) rfl ?_
        first | refine OL.q (Y.load T9 rfl (Ent.at 0 rfl (Up.cellIs _ _ _) (blk_cell rfl))) rfl ?_ | refine OL.q (Y.load T9 rfl (Ent.at 1 rfl (Up.cellIs _ _ _) (blk_cell rfl))) rfl ?_ | refine OL.q (Y.load T9 rfl (Ent.at 2 rfl (Up.cellIs _ _ _) (blk_cell rfl))) rfl ?_ | refine OL.q (Y.load T9 rfl (Ent.at 3 rfl (Up.cellIs _ _ _) (blk_cell rfl))) rfl ?_ | refine OL.q (Y.load T9 rfl (Ent.at 4 rfl (Up.cellIs _ _ _) (blk_cell rfl))) rfl ?_ | refine OL.q (Y.load T9 rfl (Ent.at 5 rfl (Up.cellIs _ _ _) (blk_cell rfl))) rfl ?_ | refine OL.q (Y.load T9 rfl (Ent.at 6 rfl (Up.cellIs _ _ _) (blk_cell rfl))) rfl ?_ | refine OL.q (Y.load T9 rfl (Ent.at 7 rfl (Up.cellIs _ _ _) (blk_cell rfl))) rfl ?_ | refine OL.q (Y.load T9 rfl (Ent.at 8 rfl (Up.cellIs _ _ _) (blk_cell rfl))) rfl ?_ | refine OL.q (Y.load T9 rfl (cellsIs_at0 (rd_at (Ent.at 0 rfl (Up.rd _ _ _ _) row_rd) (mget _ (by assumption))) rfl)) rfl ?_ | refine OL.q (Y.load T9 rfl (cellsIs_at (rd_at (Ent.at 0 rfl (Up.rd _ _ _ _) row_rd) (mget _ (by assumption))) rfl)) rfl ?_ | refine OL.q (Y.load T9 rfl (cellsIs_at0 (rd_at (Ent.at 1 rfl (Up.rd _ _ _ _) row_rd) (mget _ (by assumption))) rfl)) rfl ?_ | refine OL.q (Y.load T9 rfl (cellsIs_at (rd_at (Ent.at 1 rfl (Up.rd _ _ _ _) row_rd) (mget _ (by assumption))) rfl)) rfl ?_ | refine OL.q (Y.load T9 rfl (cellsIs_at0 (rd_at (Ent.at 2 rfl (Up.rd _ _ _ _) row_rd) (mget _ (by assumption))) rfl)) rfl ?_ | refine OL.q (Y.load T9 rfl (cellsIs_at (rd_at (Ent.at 2 rfl (Up.rd _ _ _ _) row_rd) (mget _ (by assumption))) rfl)) rfl ?_ | refine OL.q (Y.load T9 rfl (cellsIs_at0 (rd_at (Ent.at 3 rfl (Up.rd _ _ _ _) row_rd) (mget _ (by assumption))) rfl)) rfl ?_ | refine OL.q (Y.load T9 rfl (cellsIs_at (rd_at (Ent.at 3 rfl (Up.rd _ _ _ _) row_rd) (mget _ (by assumption))) rfl)) rfl ?_ | refine OL.q (Y.load T9 rfl (cellsIs_at0 (rd_at (Ent.at 4 rfl (Up.rd _ _ _ _) row_rd) (mget _ (by assumption))) rfl)) rfl ?_ | refine OL.q (Y.load T9 rfl (cellsIs_at (rd_at (Ent.at 4 rfl (Up.rd _ _ _ _) row_rd) (mget _ (by assumption))) rfl)) rfl ?_ | refine OL.q (Y.load T9 rfl (cellsIs_at0 (rd_at (Ent.at 5 rfl (Up.rd _ _ _ _) row_rd) (mget _ (by assumption))) rfl)) rfl ?_ | refine OL.q (Y.load T9 rfl (cellsIs_at (rd_at (Ent.at 5 rfl (Up.rd _ _ _ _) row_rd) (mget _ (by assumption))) rfl)) rfl ?_ | refine OL.q (Y.load T9 rfl (cellsIs_at0 (rd_at (Ent.at 6 rfl (Up.rd _ _ _ _) row_rd) (mget _ (by assumption))) rfl)) rfl ?_ | refine OL.q (Y.load T9 rfl (cellsIs_at (rd_at (Ent.at 6 rfl (Up.rd _ _ _ _) row_rd) (mget _ (by assumption))) rfl)) rfl ?_ | refine OL.q (Y.load T9 rfl (cellsIs_at0 (rd_at (Ent.at 7 rfl (Up.rd _ _ _ _) row_rd) (mget _ (by assumption))) rfl)) rfl ?_ | refine OL.q (Y.load T9 rfl (cellsIs_at (rd_at (Ent.at 7 rfl (Up.rd _ _ _ _) row_rd) (mget _ (by assumption))) rfl)) rfl ?_ | refine OL.q (Y.load T9 rfl (cellsIs_at0 (rd_at (Ent.at 8 rfl (Up.rd _ _ _ _) row_rd) (mget _ (by assumption))) rfl)) rfl ?_ | refine OL.q (Y.load T9 rfl (cellsIs_at (rd_at (Ent.at 8 rfl (Up.rd _ _ _ _) row_rd) (mget _ (by assumption))) rfl)) rfl ?_ | refine OL.q (Y.load T9 rfl (cellsIs_at0 (rd_at (Ent.frame (Up.rd _ _ _ _) (fun h hs => imm_ent (Up.rd _ _ _ _) (by assumption) h (hF h hs))) (mget _ (by assumption))) rfl)) rfl ?_ | refine OL.q (Y.load T9 rfl (cellsIs_at (rd_at (Ent.frame (Up.rd _ _ _ _) (fun h hs => imm_ent (Up.rd _ _ _ _) (by assumption) h (hF h hs))) (mget _ (by assumption))) rfl)) rfl ?_
        refine OL.q (Y.field L32_2 rfl) rfl ?_
        first | refine OL.q (Y.load T28 rfl (Ent.at 0 rfl (Up.cellIs _ _ _) (blk_cell rfl))) rfl ?_ | refine OL.q (Y.load T28 rfl (Ent.at 1 rfl (Up.cellIs _ _ _) (blk_cell rfl))) rfl ?_ | refine OL.q (Y.load T28 rfl (Ent.at 2 rfl (Up.cellIs _ _ _) (blk_cell rfl))) rfl ?_ | refine OL.q (Y.load T28 rfl (Ent.at 3 rfl (Up.cellIs _ _ _) (blk_cell rfl))) rfl ?_ | refine OL.q (Y.load T28 rfl (Ent.at 4 rfl (Up.cellIs _ _ _) (blk_cell rfl))) rfl ?_ | refine OL.q (Y.load T28 rfl (Ent.at 5 rfl (Up.cellIs _ _ _) (blk_cell rfl))) rfl ?_ | refine OL.q (Y.load T28 rfl (Ent.at 6 rfl (Up.cellIs _ _ _) (blk_cell rfl))) rfl ?_ | refine OL.q (Y.load T28 rfl (Ent.at 7 rfl (Up.cellIs _ _ _) (blk_cell rfl))) rfl ?_ | refine OL.q (Y.load T28 rfl (Ent.at 8 rfl (Up.cellIs _ _ _) (blk_cell rfl))) rfl ?_ | refine OL.q (Y.load T28 rfl (cellsIs_at0 (rd_at (Ent.at 0 rfl (Up.rd _ _ _ _) row_rd) (mget _ (by assumption))) rfl)) rfl ?_ | refine OL.q (Y.load T28 rfl (cellsIs_at (rd_at (Ent.at 0 rfl (Up.rd _ _ _ _) row_rd) (mget _ (by assumption))) rfl)) rfl ?_ | refine OL.q (Y.load T28 rfl (cellsIs_at0 (rd_at (Ent.at 1 rfl (Up.rd _ _ _ _) row_rd) (mget _ (by assumption))) rfl)) rfl ?_ | refine OL.q (Y.load T28 rfl (cellsIs_at (rd_at (Ent.at 1 rfl (Up.rd _ _ _ _) row_rd) (mget _ (by assumption))) rfl)) rfl ?_ | refine OL.q (Y.load T28 rfl (cellsIs_at0 (rd_at (Ent.at 2 rfl (Up.rd _ _ _ _) row_rd) (mget _ (by assumption))) rfl)) rfl ?_ | refine OL.q (Y.load T28 rfl (cellsIs_at (rd_at (Ent.at 2 rfl (Up.rd _ _ _ _) row_rd) (mget _ (by assumption))) rfl)) rfl ?_ | refine OL.q (Y.load T28 rfl (cellsIs_at0 (rd_at (Ent.at 3 rfl (Up.rd _ _ _ _) row_rd) (mget _ (by assumption))) rfl)) rfl ?_ | refine OL.q (Y.load T28 rfl (cellsIs_at (rd_at (Ent.at 3 rfl (Up.rd _ _ _ _) row_rd) (mget _ (by assumption))) rfl)) rfl ?_ | refine OL.q (Y.load T28 rfl (cellsIs_at0 (rd_at (Ent.at 4 rfl (Up.rd _ _ _ _) row_rd) (mget _ (by assumption))) rfl)) rfl ?_ | refine OL.q (Y.load T28 rfl (cellsIs_at (rd_at (Ent.at 4 rfl (Up.rd _ _ _ _) row_rd) (mget _ (by assumption))) rfl)) rfl ?_ | refine OL.q (Y.load T28 rfl (cellsIs_at0 (rd_at (Ent.at 5 rfl (Up.rd _ _ _ _) row_rd) (mget _ (by assumption))) rfl)) rfl ?_ | refine OL.q (Y.load T28 rfl (cellsIs_at (rd_at (Ent.at 5 rfl (Up.rd _ _ _ _) row_rd) (mget _ (by assumption))) rfl)) rfl ?_ | refine OL.q (Y.load T28 rfl (cellsIs_at0 (rd_at (Ent.at 6 rfl (Up.rd _ _ _ _) row_rd) (mget _ (by assumption))) rfl)) rfl ?_ | refine OL.q (Y.load T28 rfl (cellsIs_at (rd_at (Ent.at 6 rfl (Up.rd _ _ _ _) row_rd) (mget _ (by assumption))) rfl)) rfl ?_ | refine OL.q (Y.load T28 rfl (cellsIs_at0 (rd_at (Ent.at 7 rfl (Up.rd _ _ _ _) row_rd) (mget _ (by assumption))) rfl)) rfl ?_ | refine OL.q (Y.load T28 rfl (cellsIs_at (rd_at (Ent.at 7 rfl (Up.rd _ _ _ _) row_rd) (mget _ (by assumption))) rfl)) rfl ?_ | refine OL.q (Y.load T28 rfl (cellsIs_at0 (rd_at (Ent.at 8 rfl (Up.rd _ _ _ _) row_rd) (mget _ (by assumption))) rfl)) rfl ?_ | refine OL.q (Y.load T28 rfl (cellsIs_at (rd_at (Ent.at 8 rfl (Up.rd _ _ _ _) row_rd) (mget _ (by assumption))) rfl)) rfl ?_ | refine OL.q (Y.load T28 rfl (cellsIs_at0 (rd_at (Ent.frame (Up.rd _ _ _ _) (fun h hs => imm_ent (Up.rd _ _ _ _) (by assumption) h (hF h hs))) (mget _ (by assumption))) rfl)) rfl ?_ | refine OL.q (Y.load T28 rfl (cellsIs_at (rd_at (Ent.frame (Up.rd _ _ _ _) (fun h hs => imm_ent (Up.rd _ _ _ _) (by assumption) h (hF h hs))) (mget _ (by assumption))) rfl)) rfl ?_
        refine OL.call [0] (Sort_w t (A) x.name x.a x.n x.c x.args hxl (by omega) (by omega) (by omega)) Tryd.call16 rfl rfl rfl rfl (Ent.and (Ent.frame Up.tabP (fun h hs => imm_ent Up.tabP htab h (hF h hs))) (Ent.frame (Up.rd _ _ _ _) (fun h hs => imm_ent (Up.rd _ _ _ _) hxr h (hF h hs)))) rfl ?_
        rintro _ _ ⟨rfl, rfl⟩
        refine ⟨rfl, rfl, ?_⟩
        refine OL.q (Y.move rfl) rfl ?_
        refine OL.q (Y.extract rfl rfl) rfl ?_
        refine OL.q (Y.extract rfl rfl) rfl ?_
        refine OL.q (Y.assign rfl) rfl ?_
        refine OL.q (Y.assign rfl) rfl ?_
        refine OL.nil ?_
        refine EX.seq ?_
        refine CW.seq ?_
        have hSo2 := hSo.sort x.name x.args
        have hst := sort_told A x.name x.args
        have hbs := sort_bd A x.name x.args
        have hter := sort_terms A x.name x.args
        have hfun := sort_funs A x.name x.args
        refine CW.region ?_
        refine OL.q (Y.move rfl) rfl ?_
        refine OL.q (Y.field L32_1 rfl) rfl ?_
        first | refine OL.q (Y.load T9 rfl (Ent.at 0 rfl (Up.cellIs _ _ _) (blk_cell rfl))) rfl ?_ | refine OL.q (Y.load T9 rfl (Ent.at 1 rfl (Up.cellIs _ _ _) (blk_cell rfl))) rfl ?_ | refine OL.q (Y.load T9 rfl (Ent.at 2 rfl (Up.cellIs _ _ _) (blk_cell rfl))) rfl ?_ | refine OL.q (Y.load T9 rfl (Ent.at 3 rfl (Up.cellIs _ _ _) (blk_cell rfl))) rfl ?_ | refine OL.q (Y.load T9 rfl (Ent.at 4 rfl (Up.cellIs _ _ _) (blk_cell rfl))) rfl ?_ | refine OL.q (Y.load T9 rfl (Ent.at 5 rfl (Up.cellIs _ _ _) (blk_cell rfl))) rfl ?_ | refine OL.q (Y.load T9 rfl (Ent.at 6 rfl (Up.cellIs _ _ _) (blk_cell rfl))) rfl ?_ | refine OL.q (Y.load T9 rfl (Ent.at 7 rfl (Up.cellIs _ _ _) (blk_cell rfl))) rfl ?_ | refine OL.q (Y.load T9 rfl (Ent.at 8 rfl (Up.cellIs _ _ _) (blk_cell rfl))) rfl ?_ | refine OL.q (Y.load T9 rfl (cellsIs_at0 (rd_at (Ent.at 0 rfl (Up.rd _ _ _ _) row_rd) (mget _ (by assumption))) rfl)) rfl ?_ | refine OL.q (Y.load T9 rfl (cellsIs_at (rd_at (Ent.at 0 rfl (Up.rd _ _ _ _) row_rd) (mget _ (by assumption))) rfl)) rfl ?_ | refine OL.q (Y.load T9 rfl (cellsIs_at0 (rd_at (Ent.at 1 rfl (Up.rd _ _ _ _) row_rd) (mget _ (by assumption))) rfl)) rfl ?_ | refine OL.q (Y.load T9 rfl (cellsIs_at (rd_at (Ent.at 1 rfl (Up.rd _ _ _ _) row_rd) (mget _ (by assumption))) rfl)) rfl ?_ | refine OL.q (Y.load T9 rfl (cellsIs_at0 (rd_at (Ent.at 2 rfl (Up.rd _ _ _ _) row_rd) (mget _ (by assumption))) rfl)) rfl ?_ | refine OL.q (Y.load T9 rfl (cellsIs_at (rd_at (Ent.at 2 rfl (Up.rd _ _ _ _) row_rd) (mget _ (by assumption))) rfl)) rfl ?_ | refine OL.q (Y.load T9 rfl (cellsIs_at0 (rd_at (Ent.at 3 rfl (Up.rd _ _ _ _) row_rd) (mget _ (by assumption))) rfl)) rfl ?_ | refine OL.q (Y.load T9 rfl (cellsIs_at (rd_at (Ent.at 3 rfl (Up.rd _ _ _ _) row_rd) (mget _ (by assumption))) rfl)) rfl ?_ | refine OL.q (Y.load T9 rfl (cellsIs_at0 (rd_at (Ent.at 4 rfl (Up.rd _ _ _ _) row_rd) (mget _ (by assumption))) rfl)) rfl ?_ | refine OL.q (Y.load T9 rfl (cellsIs_at (rd_at (Ent.at 4 rfl (Up.rd _ _ _ _) row_rd) (mget _ (by assumption))) rfl)) rfl ?_ | refine OL.q (Y.load T9 rfl (cellsIs_at0 (rd_at (Ent.at 5 rfl (Up.rd _ _ _ _) row_rd) (mget _ (by assumption))) rfl)) rfl ?_ | refine OL.q (Y.load T9 rfl (cellsIs_at (rd_at (Ent.at 5 rfl (Up.rd _ _ _ _) row_rd) (mget _ (by assumption))) rfl)) rfl ?_ | refine OL.q (Y.load T9 rfl (cellsIs_at0 (rd_at (Ent.at 6 rfl (Up.rd _ _ _ _) row_rd) (mget _ (by assumption))) rfl)) rfl ?_ | refine OL.q (Y.load T9 rfl (cellsIs_at (rd_at (Ent.at 6 rfl (Up.rd _ _ _ _) row_rd) (mget _ (by assumption))) rfl)) rfl ?_ | refine OL.q (Y.load T9 rfl (cellsIs_at0 (rd_at (Ent.at 7 rfl (Up.rd _ _ _ _) row_rd) (mget _ (by assumption))) rfl)) rfl ?_ | refine OL.q (Y.load T9 rfl (cellsIs_at (rd_at (Ent.at 7 rfl (Up.rd _ _ _ _) row_rd) (mget _ (by assumption))) rfl)) rfl ?_ | refine OL.q (Y.load T9 rfl (cellsIs_at0 (rd_at (Ent.at 8 rfl (Up.rd _ _ _ _) row_rd) (mget _ (by assumption))) rfl)) rfl ?_ | refine OL.q (Y.load T9 rfl (cellsIs_at (rd_at (Ent.at 8 rfl (Up.rd _ _ _ _) row_rd) (mget _ (by assumption))) rfl)) rfl ?_ | refine OL.q (Y.load T9 rfl (cellsIs_at0 (rd_at (Ent.frame (Up.rd _ _ _ _) (fun h hs => imm_ent (Up.rd _ _ _ _) (by assumption) h (hF h hs))) (mget _ (by assumption))) rfl)) rfl ?_ | refine OL.q (Y.load T9 rfl (cellsIs_at (rd_at (Ent.frame (Up.rd _ _ _ _) (fun h hs => imm_ent (Up.rd _ _ _ _) (by assumption) h (hF h hs))) (mget _ (by assumption))) rfl)) rfl ?_
        refine OL.q (Y.field L32_2 rfl) rfl ?_
        first | refine OL.q (Y.load T28 rfl (Ent.at 0 rfl (Up.cellIs _ _ _) (blk_cell rfl))) rfl ?_ | refine OL.q (Y.load T28 rfl (Ent.at 1 rfl (Up.cellIs _ _ _) (blk_cell rfl))) rfl ?_ | refine OL.q (Y.load T28 rfl (Ent.at 2 rfl (Up.cellIs _ _ _) (blk_cell rfl))) rfl ?_ | refine OL.q (Y.load T28 rfl (Ent.at 3 rfl (Up.cellIs _ _ _) (blk_cell rfl))) rfl ?_ | refine OL.q (Y.load T28 rfl (Ent.at 4 rfl (Up.cellIs _ _ _) (blk_cell rfl))) rfl ?_ | refine OL.q (Y.load T28 rfl (Ent.at 5 rfl (Up.cellIs _ _ _) (blk_cell rfl))) rfl ?_ | refine OL.q (Y.load T28 rfl (Ent.at 6 rfl (Up.cellIs _ _ _) (blk_cell rfl))) rfl ?_ | refine OL.q (Y.load T28 rfl (Ent.at 7 rfl (Up.cellIs _ _ _) (blk_cell rfl))) rfl ?_ | refine OL.q (Y.load T28 rfl (Ent.at 8 rfl (Up.cellIs _ _ _) (blk_cell rfl))) rfl ?_ | refine OL.q (Y.load T28 rfl (cellsIs_at0 (rd_at (Ent.at 0 rfl (Up.rd _ _ _ _) row_rd) (mget _ (by assumption))) rfl)) rfl ?_ | refine OL.q (Y.load T28 rfl (cellsIs_at (rd_at (Ent.at 0 rfl (Up.rd _ _ _ _) row_rd) (mget _ (by assumption))) rfl)) rfl ?_ | refine OL.q (Y.load T28 rfl (cellsIs_at0 (rd_at (Ent.at 1 rfl (Up.rd _ _ _ _) row_rd) (mget _ (by assumption))) rfl)) rfl ?_ | refine OL.q (Y.load T28 rfl (cellsIs_at (rd_at (Ent.at 1 rfl (Up.rd _ _ _ _) row_rd) (mget _ (by assumption))) rfl)) rfl ?_ | refine OL.q (Y.load T28 rfl (cellsIs_at0 (rd_at (Ent.at 2 rfl (Up.rd _ _ _ _) row_rd) (mget _ (by assumption))) rfl)) rfl ?_ | refine OL.q (Y.load T28 rfl (cellsIs_at (rd_at (Ent.at 2 rfl (Up.rd _ _ _ _) row_rd) (mget _ (by assumption))) rfl)) rfl ?_ | refine OL.q (Y.load T28 rfl (cellsIs_at0 (rd_at (Ent.at 3 rfl (Up.rd _ _ _ _) row_rd) (mget _ (by assumption))) rfl)) rfl ?_ | refine OL.q (Y.load T28 rfl (cellsIs_at (rd_at (Ent.at 3 rfl (Up.rd _ _ _ _) row_rd) (mget _ (by assumption))) rfl)) rfl ?_ | refine OL.q (Y.load T28 rfl (cellsIs_at0 (rd_at (Ent.at 4 rfl (Up.rd _ _ _ _) row_rd) (mget _ (by assumption))) rfl)) rfl ?_ | refine OL.q (Y.load T28 rfl (cellsIs_at (rd_at (Ent.at 4 rfl (Up.rd _ _ _ _) row_rd) (mget _ (by assumption))) rfl)) rfl ?_ | refine OL.q (Y.load T28 rfl (cellsIs_at0 (rd_at (Ent.at 5 rfl (Up.rd _ _ _ _) row_rd) (mget _ (by assumption))) rfl)) rfl ?_ | refine OL.q (Y.load T28 rfl (cellsIs_at (rd_at (Ent.at 5 rfl (Up.rd _ _ _ _) row_rd) (mget _ (by assumption))) rfl)) rfl ?_ | refine OL.q (Y.load T28 rfl (cellsIs_at0 (rd_at (Ent.at 6 rfl (Up.rd _ _ _ _) row_rd) (mget _ (by assumption))) rfl)) rfl ?_ | refine OL.q (Y.load T28 rfl (cellsIs_at (rd_at (Ent.at 6 rfl (Up.rd _ _ _ _) row_rd) (mget _ (by assumption))) rfl)) rfl ?_ | refine OL.q (Y.load T28 rfl (cellsIs_at0 (rd_at (Ent.at 7 rfl (Up.rd _ _ _ _) row_rd) (mget _ (by assumption))) rfl)) rfl ?_ | refine OL.q (Y.load T28 rfl (cellsIs_at (rd_at (Ent.at 7 rfl (Up.rd _ _ _ _) row_rd) (mget _ (by assumption))) rfl)) rfl ?_ | refine OL.q (Y.load T28 rfl (cellsIs_at0 (rd_at (Ent.at 8 rfl (Up.rd _ _ _ _) row_rd) (mget _ (by assumption))) rfl)) rfl ?_ | refine OL.q (Y.load T28 rfl (cellsIs_at (rd_at (Ent.at 8 rfl (Up.rd _ _ _ _) row_rd) (mget _ (by assumption))) rfl)) rfl ?_ | refine OL.q (Y.load T28 rfl (cellsIs_at0 (rd_at (Ent.frame (Up.rd _ _ _ _) (fun h hs => imm_ent (Up.rd _ _ _ _) (by assumption) h (hF h hs))) (mget _ (by assumption))) rfl)) rfl ?_ | refine OL.q (Y.load T28 rfl (cellsIs_at (rd_at (Ent.frame (Up.rd _ _ _ _) (fun h hs => imm_ent (Up.rd _ _ _ _) (by assumption) h (hF h hs))) (mget _ (by assumption))) rfl)) rfl ?_
        refine OL.call [0] (Sort_w t ((A.sort x.name x.args).2.2) x.name x.a x.n x.c x.args hxl (by omega) (by omega) (by omega)) Tryd.call16 rfl rfl rfl rfl (Ent.and (Ent.frame Up.tabP (fun h hs => imm_ent Up.tabP htab h (hF h hs))) (Ent.frame (Up.rd _ _ _ _) (fun h hs => imm_ent (Up.rd _ _ _ _) hxr h (hF h hs)))) rfl ?_
        rw [sort_again]
        rintro _ _ ⟨rfl, rfl⟩
        refine ⟨rfl, rfl, ?_⟩
        refine OL.q (Y.move rfl) rfl ?_
        refine OL.q (Y.extract rfl rfl) rfl ?_
        refine OL.q (Y.extract rfl rfl) rfl ?_
        refine OL.q (Y.assign rfl) rfl ?_
        refine OL.q (Y.assign rfl) rfl ?_
        refine OL.nil ?_
        refine EX.seq ?_
        refine CW.seq ?_
        refine CW.seq ?_
        refine CW.drawn [(true, 0), (true, 1), (true, 2), (true, 3), (true, 4), (true, 5), (true, 6), (true, 7), (true, 8), (true, 9), (true, 10), (true, 11), (true, 12), (true, 13), (false, 14), (true, 15), (true, 16), (true, 17), (true, 18), (true, 20), (true, 24), (true, 25), (false, 19), (false, 21), (true, 22), (false, 23), (true, 26), (true, 27), (true, 28), (true, 29), (true, 31), (true, 35), (true, 36), (false, 30), (false, 32), (true, 33), (false, 34), (false, 37), (true, 38), (true, 39), (true, 40), (true, 41)] [] [2] mixed (by kernel_rfl) (by repeat (first | exact PanicOk.body | refine PanicOk.then ?_ | refine PanicOk.block ?_)) (by kernel_rfl) rfl rfl rfl rfl ?_
        refine OL.qt (Y.move rfl) rfl ?_
        refine OL.qt (Y.move rfl) rfl ?_
        refine OL.qt (Y.neq rfl rfl) rfl ?_
        refine OL.qt (Y.move rfl) rfl ?_
        refine OL.guard (s := 55) rfl (fun g13_3 => ?_) (fun g13_3 => ?_)
        · have ng13_3 := g13_3
          repeat (first | replace ng13_3 := yes ng13_3 | replace ng13_3 := no ng13_3 | replace ng13_3 := nyes ng13_3 | replace ng13_3 := nno ng13_3)
          exfalso
          exact ng13_3 rfl
        · have ng13_3 := g13_3
          repeat (first | replace ng13_3 := yes ng13_3 | replace ng13_3 := no ng13_3 | replace ng13_3 := nyes ng13_3 | replace ng13_3 := nno ng13_3)
          refine OL.ont g13_3 rfl rfl ?_
          refine OL.qt (Y.move rfl) rfl ?_
          refine OL.ont g13_3 rfl rfl ?_
          refine OL.qt (Y.move rfl) rfl ?_
          refine OL.ont g13_3 rfl rfl ?_
          refine OL.qt (Y.neq rfl rfl) rfl ?_
          refine OL.qt (Y.pickF rfl g13_3 rfl) rfl ?_
          refine OL.qt (Y.move rfl) rfl ?_
          refine OL.guard (s := 60) rfl (fun g13_8 => ?_) (fun g13_8 => ?_)
          · have ng13_8 := g13_8
            repeat (first | replace ng13_8 := yes ng13_8 | replace ng13_8 := no ng13_8 | replace ng13_8 := nyes ng13_8 | replace ng13_8 := nno ng13_8)
            exfalso
            exact ng13_8 rfl
          · have ng13_8 := g13_8
            repeat (first | replace ng13_8 := yes ng13_8 | replace ng13_8 := no ng13_8 | replace ng13_8 := nyes ng13_8 | replace ng13_8 := nno ng13_8)
            refine OL.ont g13_8 rfl rfl ?_
            refine OL.qt (Y.move rfl) rfl ?_
            refine OL.ont g13_8 rfl rfl ?_
            refine OL.qt (Y.eql rfl rfl) rfl ?_
            refine OL.ont g13_8 rfl rfl ?_
            refine OL.qt (Y.move rfl) rfl ?_
            refine OL.guard (s := 63) rfl (fun g13_11 => ?_) (fun g13_11 => ?_)
            · have ng13_11 := g13_11
              repeat (first | replace ng13_11 := yes ng13_11 | replace ng13_11 := no ng13_11 | replace ng13_11 := nyes ng13_11 | replace ng13_11 := nno ng13_11)
              obtain ⟨m, hm, hAm⟩ : ∃ m : Nat, (A.sort x.name x.args).1 = m ∧ (A.sort x.name x.args).2.2.sorts[m]? = some ⟨x.name, x.args⟩ := by
                rcases hst with h | ⟨_, h⟩
                · omega
                · exact h
              have hml := (List.getElem?_eq_some_iff.1 hAm).1
              refine OL.ont g13_11 rfl rfl ?_
              refine OL.qt (Y.move rfl) rfl ?_
              refine OL.ont g13_11 rfl rfl ?_
              refine OL.qt (Y.move rfl) rfl ?_
              refine OL.on g13_11 rfl rfl ?_
              refine OL.call [] (Sorts_w t (A.sort x.name x.args).2.2) Tryd.call27 rfl rfl rfl rfl (Ent.at 0 rfl (Up.arena _ _) (fun _ h => h)) rfl ?_
              rintro _ _ ⟨sa2, sc2, ss, M2, rfl, hsq, hso, rfl⟩
              refine ⟨rfl, rfl, ?_⟩
              refine OL.ont g13_11 rfl rfl ?_
              refine OL.qt (Y.lenSl Tryd.underlying53 rfl) rfl ?_
              refine OL.ont g13_11 rfl rfl ?_
              refine OL.qt (Y.geq rfl rfl) rfl ?_
              refine OL.ont g13_11 rfl rfl ?_
              refine OL.qt (Y.move rfl) rfl ?_
              refine OL.guard (s := 69) rfl (fun g13_17 => ?_) (fun g13_17 => ?_)
              · have ng13_17 := g13_17
                repeat (first | replace ng13_17 := yes ng13_17 | replace ng13_17 := no ng13_17 | replace ng13_17 := nyes ng13_17 | replace ng13_17 := nno ng13_17)
                exfalso
                first | omega | contradiction | exact absurd rfl ng13_17 | exact absurd ng13_17 (by simp) | exact absurd ng13_17 (by decide)
              · have ng13_17 := g13_17
                repeat (first | replace ng13_17 := yes ng13_17 | replace ng13_17 := no ng13_17 | replace ng13_17 := nyes ng13_17 | replace ng13_17 := nno ng13_17)
                refine OL.ont g13_17 rfl rfl ?_
                refine OL.qt (Y.move rfl) rfl ?_
                refine OL.ont g13_17 rfl rfl ?_
                refine OL.qt (Y.move rfl) rfl ?_
                refine OL.ont g13_17 rfl rfl ?_
                refine OL.qt (Y.field L32_1 rfl) rfl ?_
                refine OL.ont g13_17 rfl rfl ?_
                first | refine OL.qt (Y.load T9 rfl (Ent.at 0 rfl (Up.cellIs _ _ _) (blk_cell rfl))) rfl ?_ | refine OL.qt (Y.load T9 rfl (Ent.at 1 rfl (Up.cellIs _ _ _) (blk_cell rfl))) rfl ?_ | refine OL.qt (Y.load T9 rfl (Ent.at 2 rfl (Up.cellIs _ _ _) (blk_cell rfl))) rfl ?_ | refine OL.qt (Y.load T9 rfl (Ent.at 3 rfl (Up.cellIs _ _ _) (blk_cell rfl))) rfl ?_ | refine OL.qt (Y.load T9 rfl (Ent.at 4 rfl (Up.cellIs _ _ _) (blk_cell rfl))) rfl ?_ | refine OL.qt (Y.load T9 rfl (Ent.at 5 rfl (Up.cellIs _ _ _) (blk_cell rfl))) rfl ?_ | refine OL.qt (Y.load T9 rfl (Ent.at 6 rfl (Up.cellIs _ _ _) (blk_cell rfl))) rfl ?_ | refine OL.qt (Y.load T9 rfl (Ent.at 7 rfl (Up.cellIs _ _ _) (blk_cell rfl))) rfl ?_ | refine OL.qt (Y.load T9 rfl (Ent.at 8 rfl (Up.cellIs _ _ _) (blk_cell rfl))) rfl ?_ | refine OL.qt (Y.load T9 rfl (cellsIs_at0 (rd_at (Ent.at 0 rfl (Up.rd _ _ _ _) row_rd) (mget _ (by assumption))) rfl)) rfl ?_ | refine OL.qt (Y.load T9 rfl (cellsIs_at (rd_at (Ent.at 0 rfl (Up.rd _ _ _ _) row_rd) (mget _ (by assumption))) rfl)) rfl ?_ | refine OL.qt (Y.load T9 rfl (cellsIs_at0 (rd_at (Ent.at 1 rfl (Up.rd _ _ _ _) row_rd) (mget _ (by assumption))) rfl)) rfl ?_ | refine OL.qt (Y.load T9 rfl (cellsIs_at (rd_at (Ent.at 1 rfl (Up.rd _ _ _ _) row_rd) (mget _ (by assumption))) rfl)) rfl ?_ | refine OL.qt (Y.load T9 rfl (cellsIs_at0 (rd_at (Ent.at 2 rfl (Up.rd _ _ _ _) row_rd) (mget _ (by assumption))) rfl)) rfl ?_ | refine OL.qt (Y.load T9 rfl (cellsIs_at (rd_at (Ent.at 2 rfl (Up.rd _ _ _ _) row_rd) (mget _ (by assumption))) rfl)) rfl ?_ | refine OL.qt (Y.load T9 rfl (cellsIs_at0 (rd_at (Ent.at 3 rfl (Up.rd _ _ _ _) row_rd) (mget _ (by assumption))) rfl)) rfl ?_ | refine OL.qt (Y.load T9 rfl (cellsIs_at (rd_at (Ent.at 3 rfl (Up.rd _ _ _ _) row_rd) (mget _ (by assumption))) rfl)) rfl ?_ | refine OL.qt (Y.load T9 rfl (cellsIs_at0 (rd_at (Ent.at 4 rfl (Up.rd _ _ _ _) row_rd) (mget _ (by assumption))) rfl)) rfl ?_ | refine OL.qt (Y.load T9 rfl (cellsIs_at (rd_at (Ent.at 4 rfl (Up.rd _ _ _ _) row_rd) (mget _ (by assumption))) rfl)) rfl ?_ | refine OL.qt (Y.load T9 rfl (cellsIs_at0 (rd_at (Ent.at 5 rfl (Up.rd _ _ _ _) row_rd) (mget _ (by assumption))) rfl)) rfl ?_ | refine OL.qt (Y.load T9 rfl (cellsIs_at (rd_at (Ent.at 5 rfl (Up.rd _ _ _ _) row_rd) (mget _ (by assumption))) rfl)) rfl ?_ | refine OL.qt (Y.load T9 rfl (cellsIs_at0 (rd_at (Ent.at 6 rfl (Up.rd _ _ _ _) row_rd) (mget _ (by assumption))) rfl)) rfl ?_ | refine OL.qt (Y.load T9 rfl (cellsIs_at (rd_at (Ent.at 6 rfl (Up.rd _ _ _ _) row_rd) (mget _ (by assumption))) rfl)) rfl ?_ | refine OL.qt (Y.load T9 rfl (cellsIs_at0 (rd_at (Ent.at 7 rfl (Up.rd _ _ _ _) row_rd) (mget _ (by assumption))) rfl)) rfl ?_ | refine OL.qt (Y.load T9 rfl (cellsIs_at (rd_at (Ent.at 7 rfl (Up.rd _ _ _ _) row_rd) (mget _ (by assumption))) rfl)) rfl ?_ | refine OL.qt (Y.load T9 rfl (cellsIs_at0 (rd_at (Ent.at 8 rfl (Up.rd _ _ _ _) row_rd) (mget _ (by assumption))) rfl)) rfl ?_ | refine OL.qt (Y.load T9 rfl (cellsIs_at (rd_at (Ent.at 8 rfl (Up.rd _ _ _ _) row_rd) (mget _ (by assumption))) rfl)) rfl ?_ | refine OL.qt (Y.load T9 rfl (cellsIs_at0 (rd_at (Ent.frame (Up.rd _ _ _ _) (fun h hs => imm_ent (Up.rd _ _ _ _) (by assumption) h (hF h hs))) (mget _ (by assumption))) rfl)) rfl ?_ | refine OL.qt (Y.load T9 rfl (cellsIs_at (rd_at (Ent.frame (Up.rd _ _ _ _) (fun h hs => imm_ent (Up.rd _ _ _ _) (by assumption) h (hF h hs))) (mget _ (by assumption))) rfl)) rfl ?_
                refine OL.on g13_17 rfl rfl ?_
                refine OL.call [] (Sorts_w t (A.sort x.name x.args).2.2) Tryd.call27 rfl rfl rfl rfl (Ent.at 0 rfl (Up.arena _ _) (fun _ h => h)) rfl ?_
                rintro _ _ ⟨sa3, sc3, ss3, M3, rfl, hsq3, hso3, rfl⟩
                obtain ⟨u, hu⟩ : ∃ p, ss3[m]? = some p := ⟨_, List.getElem?_eq_getElem (by have h9 := congrArg List.length hsq3; rw [List.length_map] at h9; omega)⟩
                have huq : u.q = ⟨x.name, x.args⟩ := by
                  have h9 := mget SortC.q hu
                  rw [hsq3, hAm] at h9
                  exact (Option.some.inj h9).symm
                have hun : u.name = x.name := congrArg SortP.name huq
                refine ⟨rfl, rfl, ?_⟩
                refine OL.on g13_17 rfl rfl ?_
                refine OL.q (Y.index (k := m) Tryd.underlying53 C57 rfl rfl (Ent.at 5 rfl (Up.rd _ _ _ _) row_rd) hm hml) rfl ?_
                refine OL.ont g13_17 rfl rfl ?_
                refine OL.qt (Y.field L57_0 rfl) rfl ?_
                refine OL.on g13_17 rfl rfl ?_
                refine OL.q (Y.load T9 rfl (cellsIs_at0 (rd_at (Ent.at 5 rfl (Up.rd _ _ _ _) row_rd) (mget sortCells hu)) rfl)) rfl ?_
                refine OL.ont g13_17 rfl rfl ?_
                refine OL.qt (Y.neqS rfl rfl) rfl ?_
                refine OL.ont g13_11 rfl rfl ?_
                refine OL.qt (Y.pickF rfl g13_17 rfl) rfl ?_
                refine OL.ont g13_11 rfl rfl ?_
                refine OL.qt (Y.move rfl) rfl ?_
                refine OL.guard (s := 80) rfl (fun g13_28 => ?_) (fun g13_28 => ?_)
                · have ng13_28 := g13_28
                  repeat (first | replace ng13_28 := yes ng13_28 | replace ng13_28 := no ng13_28 | replace ng13_28 := nyes ng13_28 | replace ng13_28 := nno ng13_28)
                  exfalso
                  exact ng13_28 hun
                · have ng13_28 := g13_28
                  repeat (first | replace ng13_28 := yes ng13_28 | replace ng13_28 := no ng13_28 | replace ng13_28 := nyes ng13_28 | replace ng13_28 := nno ng13_28)
                  refine OL.ont g13_28 rfl rfl ?_
                  refine OL.qt (Y.move rfl) rfl ?_
                  refine OL.ont g13_28 rfl rfl ?_
                  refine OL.qt (Y.move rfl) rfl ?_
                  refine OL.ont g13_28 rfl rfl ?_
                  refine OL.qt (Y.field L32_2 rfl) rfl ?_
                  refine OL.ont g13_28 rfl rfl ?_
                  first | refine OL.qt (Y.load T28 rfl (Ent.at 0 rfl (Up.cellIs _ _ _) (blk_cell rfl))) rfl ?_ | refine OL.qt (Y.load T28 rfl (Ent.at 1 rfl (Up.cellIs _ _ _) (blk_cell rfl))) rfl ?_ | refine OL.qt (Y.load T28 rfl (Ent.at 2 rfl (Up.cellIs _ _ _) (blk_cell rfl))) rfl ?_ | refine OL.qt (Y.load T28 rfl (Ent.at 3 rfl (Up.cellIs _ _ _) (blk_cell rfl))) rfl ?_ | refine OL.qt (Y.load T28 rfl (Ent.at 4 rfl (Up.cellIs _ _ _) (blk_cell rfl))) rfl ?_ | refine OL.qt (Y.load T28 rfl (Ent.at 5 rfl (Up.cellIs _ _ _) (blk_cell rfl))) rfl ?_ | refine OL.qt (Y.load T28 rfl (Ent.at 6 rfl (Up.cellIs _ _ _) (blk_cell rfl))) rfl ?_ | refine OL.qt (Y.load T28 rfl (Ent.at 7 rfl (Up.cellIs _ _ _) (blk_cell rfl))) rfl ?_ | refine OL.qt (Y.load T28 rfl (Ent.at 8 rfl (Up.cellIs _ _ _) (blk_cell rfl))) rfl ?_ | refine OL.qt (Y.load T28 rfl (cellsIs_at0 (rd_at (Ent.at 0 rfl (Up.rd _ _ _ _) row_rd) (mget _ (by assumption))) rfl)) rfl ?_ | refine OL.qt (Y.load T28 rfl (cellsIs_at (rd_at (Ent.at 0 rfl (Up.rd _ _ _ _) row_rd) (mget _ (by assumption))) rfl)) rfl ?_ | refine OL.qt (Y.load T28 rfl (cellsIs_at0 (rd_at (Ent.at 1 rfl (Up.rd _ _ _ _) row_rd) (mget _ (by assumption))) rfl)) rfl ?_ | refine OL.qt (Y.load T28 rfl (cellsIs_at (rd_at (Ent.at 1 rfl (Up.rd _ _ _ _) row_rd) (mget _ (by assumption))) rfl)) rfl ?_ | refine OL.qt (Y.load T28 rfl (cellsIs_at0 (rd_at (Ent.at 2 rfl (Up.rd _ _ _ _) row_rd) (mget _ (by assumption))) rfl)) rfl ?_ | refine OL.qt (Y.load T28 rfl (cellsIs_at (rd_at (Ent.at 2 rfl (Up.rd _ _ _ _) row_rd) (mget _ (by assumption))) rfl)) rfl ?_ | refine OL.qt (Y.load T28 rfl (cellsIs_at0 (rd_at (Ent.at 3 rfl (Up.rd _ _ _ _) row_rd) (mget _ (by assumption))) rfl)) rfl ?_ | refine OL.qt (Y.load T28 rfl (cellsIs_at (rd_at (Ent.at 3 rfl (Up.rd _ _ _ _) row_rd) (mget _ (by assumption))) rfl)) rfl ?_ | refine OL.qt (Y.load T28 rfl (cellsIs_at0 (rd_at (Ent.at 4 rfl (Up.rd _ _ _ _) row_rd) (mget _ (by assumption))) rfl)) rfl ?_ | refine OL.qt (Y.load T28 rfl (cellsIs_at (rd_at (Ent.at 4 rfl (Up.rd _ _ _ _) row_rd) (mget _ (by assumption))) rfl)) rfl ?_ | refine OL.qt (Y.load T28 rfl (cellsIs_at0 (rd_at (Ent.at 5 rfl (Up.rd _ _ _ _) row_rd) (mget _ (by assumption))) rfl)) rfl ?_ | refine OL.qt (Y.load T28 rfl (cellsIs_at (rd_at (Ent.at 5 rfl (Up.rd _ _ _ _) row_rd) (mget _ (by assumption))) rfl)) rfl ?_ | refine OL.qt (Y.load T28 rfl (cellsIs_at0 (rd_at (Ent.at 6 rfl (Up.rd _ _ _ _) row_rd) (mget _ (by assumption))) rfl)) rfl ?_ | refine OL.qt (Y.load T28 rfl (cellsIs_at (rd_at (Ent.at 6 rfl (Up.rd _ _ _ _) row_rd) (mget _ (by assumption))) rfl)) rfl ?_ | refine OL.qt (Y.load T28 rfl (cellsIs_at0 (rd_at (Ent.at 7 rfl (Up.rd _ _ _ _) row_rd) (mget _ (by assumption))) rfl)) rfl ?_ | refine OL.qt (Y.load T28 rfl (cellsIs_at (rd_at (Ent.at 7 rfl (Up.rd _ _ _ _) row_rd) (mget _ (by assumption))) rfl)) rfl ?_ | refine OL.qt (Y.load T28 rfl (cellsIs_at0 (rd_at (Ent.at 8 rfl (Up.rd _ _ _ _) row_rd) (mget _ (by assumption))) rfl)) rfl ?_ | refine OL.qt (Y.load T28 rfl (cellsIs_at (rd_at (Ent.at 8 rfl (Up.rd _ _ _ _) row_rd) (mget _ (by assumption))) rfl)) rfl ?_ | refine OL.qt (Y.load T28 rfl (cellsIs_at0 (rd_at (Ent.frame (Up.rd _ _ _ _) (fun h hs => imm_ent (Up.rd _ _ _ _) (by assumption) h (hF h hs))) (mget _ (by assumption))) rfl)) rfl ?_ | refine OL.qt (Y.load T28 rfl (cellsIs_at (rd_at (Ent.frame (Up.rd _ _ _ _) (fun h hs => imm_ent (Up.rd _ _ _ _) (by assumption) h (hF h hs))) (mget _ (by assumption))) rfl)) rfl ?_
                  refine OL.on g13_28 rfl rfl ?_
                  refine OL.call [] (Sorts_w t (A.sort x.name x.args).2.2) Tryd.call27 rfl rfl rfl rfl (Ent.at 0 rfl (Up.arena _ _) (fun _ h => h)) rfl ?_
                  rintro _ _ ⟨sa4, sc4, ss4, M4, rfl, hsq4, hso4, rfl⟩
                  obtain ⟨w, hw⟩ : ∃ p, ss4[m]? = some p := ⟨_, List.getElem?_eq_getElem (by have h9 := congrArg List.length hsq4; rw [List.length_map] at h9; omega)⟩
                  have hwq : w.q = ⟨x.name, x.args⟩ := by
                    have h9 := mget SortC.q hw
                    rw [hsq4, hAm] at h9
                    exact (Option.some.inj h9).symm
                  have hwn : w.args = x.args := congrArg SortP.args hwq
                  obtain ⟨⟨hwr, hwc, hwl⟩, hwz⟩ := hso4 w (mem_of hw)
                  refine ⟨rfl, rfl, ?_⟩
                  refine OL.on g13_28 rfl rfl ?_
                  refine OL.q (Y.index (k := m) Tryd.underlying53 C57 rfl rfl (Ent.at 7 rfl (Up.rd _ _ _ _) row_rd) hm hml) rfl ?_
                  refine OL.ont g13_28 rfl rfl ?_
                  refine OL.qt (Y.field L57_1 rfl) rfl ?_
                  refine OL.on g13_28 rfl rfl ?_
                  refine OL.q (Y.load T28 rfl (cellsIs_at (rd_at (Ent.at 7 rfl (Up.rd _ _ _ _) row_rd) (mget sortCells hw)) rfl)) rfl ?_
                  refine OL.on g13_28 rfl rfl ?_
                  refine OL.call [] (sameInts_any w.a x.a w.n w.c x.n x.c w.args x.args hwl hxl (by omega)) Tryd.call26 rfl rfl rfl rfl (Ent.and (Ent.at 8 rfl (Up.rd _ _ _ _) (imm_ent (Up.rd _ _ _ _) hwr)) (Ent.frame (Up.rd _ _ _ _) (fun h hs => imm_ent (Up.rd _ _ _ _) hxr h (hF h hs)))) rfl ?_
                  rw [decide_eq_true hwn]
                  rintro _ _ ⟨rfl, rfl⟩
                  refine ⟨rfl, rfl, ?_⟩
                  refine OL.ont g13_28 rfl rfl ?_
                  refine OL.qt (Y.not rfl) rfl ?_
                  refine OL.ont g13_11 rfl rfl ?_
                  refine OL.qt (Y.pickF rfl g13_28 rfl) rfl ?_
                  refine OL.ont g13_8 rfl rfl ?_
                  refine OL.qt (Y.pickT rfl g13_11 rfl) rfl ?_
                  refine OL.qt (Y.pickF rfl g13_8 rfl) rfl ?_
                  refine OL.nil ?_
                  refine EX.tail ?_
                  refine OL.nil ?_
                  refine EX.seq ?_
                  refine CW.cond rfl (fun h4 => ?_) (fun h4 => ?_)
                  · repeat (first | replace h4 := yes h4 | replace h4 := no h4 | replace h4 := nyes h4 | replace h4 := nno h4)
                    exfalso
                    cases h4
                  repeat (first | replace h4 := yes h4 | replace h4 := no h4 | replace h4 := nyes h4 | replace h4 := nno h4)
                  refine CW.skip ?_
                  refine EX.seq ?_
                  refine CW.seq ?_
                  refine CW.region ?_
                  refine OL.q (Y.field L32_2 rfl) rfl ?_
                  first | refine OL.q (Y.load T28 rfl (Ent.at 0 rfl (Up.cellIs _ _ _) (blk_cell rfl))) rfl ?_ | refine OL.q (Y.load T28 rfl (Ent.at 1 rfl (Up.cellIs _ _ _) (blk_cell rfl))) rfl ?_ | refine OL.q (Y.load T28 rfl (Ent.at 2 rfl (Up.cellIs _ _ _) (blk_cell rfl))) rfl ?_ | refine OL.q (Y.load T28 rfl (Ent.at 3 rfl (Up.cellIs _ _ _) (blk_cell rfl))) rfl ?_ | refine OL.q (Y.load T28 rfl (Ent.at 4 rfl (Up.cellIs _ _ _) (blk_cell rfl))) rfl ?_ | refine OL.q (Y.load T28 rfl (Ent.at 5 rfl (Up.cellIs _ _ _) (blk_cell rfl))) rfl ?_ | refine OL.q (Y.load T28 rfl (Ent.at 6 rfl (Up.cellIs _ _ _) (blk_cell rfl))) rfl ?_ | refine OL.q (Y.load T28 rfl (Ent.at 7 rfl (Up.cellIs _ _ _) (blk_cell rfl))) rfl ?_ | refine OL.q (Y.load T28 rfl (Ent.at 8 rfl (Up.cellIs _ _ _) (blk_cell rfl))) rfl ?_ | refine OL.q (Y.load T28 rfl (cellsIs_at0 (rd_at (Ent.at 0 rfl (Up.rd _ _ _ _) row_rd) (mget _ (by assumption))) rfl)) rfl ?_ | refine OL.q (Y.load T28 rfl (cellsIs_at (rd_at (Ent.at 0 rfl (Up.rd _ _ _ _) row_rd) (mget _ (by assumption))) rfl)) rfl ?_ | refine OL.q (Y.load T28 rfl (cellsIs_at0 (rd_at (Ent.at 1 rfl (Up.rd _ _ _ _) row_rd) (mget _ (by assumption))) rfl)) rfl ?_ | refine OL.q (Y.load T28 rfl (cellsIs_at (rd_at (Ent.at 1 rfl (Up.rd _ _ _ _) row_rd) (mget _ (by assumption))) rfl)) rfl ?_ | refine OL.q (Y.load T28 rfl (cellsIs_at0 (rd_at (Ent.at 2 rfl (Up.rd _ _ _ _) row_rd) (mget _ (by assumption))) rfl)) rfl ?_ | refine OL.q (Y.load T28 rfl (cellsIs_at (rd_at (Ent.at 2 rfl (Up.rd _ _ _ _) row_rd) (mget _ (by assumption))) rfl)) rfl ?_ | refine OL.q (Y.load T28 rfl (cellsIs_at0 (rd_at (Ent.at 3 rfl (Up.rd _ _ _ _) row_rd) (mget _ (by assumption))) rfl)) rfl ?_ | refine OL.q (Y.load T28 rfl (cellsIs_at (rd_at (Ent.at 3 rfl (Up.rd _ _ _ _) row_rd) (mget _ (by assumption))) rfl)) rfl ?_ | refine OL.q (Y.load T28 rfl (cellsIs_at0 (rd_at (Ent.at 4 rfl (Up.rd _ _ _ _) row_rd) (mget _ (by assumption))) rfl)) rfl ?_ | refine OL.q (Y.load T28 rfl (cellsIs_at (rd_at (Ent.at 4 rfl (Up.rd _ _ _ _) row_rd) (mget _ (by assumption))) rfl)) rfl ?_ | refine OL.q (Y.load T28 rfl (cellsIs_at0 (rd_at (Ent.at 5 rfl (Up.rd _ _ _ _) row_rd) (mget _ (by assumption))) rfl)) rfl ?_ | refine OL.q (Y.load T28 rfl (cellsIs_at (rd_at (Ent.at 5 rfl (Up.rd _ _ _ _) row_rd) (mget _ (by assumption))) rfl)) rfl ?_ | refine OL.q (Y.load T28 rfl (cellsIs_at0 (rd_at (Ent.at 6 rfl (Up.rd _ _ _ _) row_rd) (mget _ (by assumption))) rfl)) rfl ?_ | refine OL.q (Y.load T28 rfl (cellsIs_at (rd_at (Ent.at 6 rfl (Up.rd _ _ _ _) row_rd) (mget _ (by assumption))) rfl)) rfl ?_ | refine OL.q (Y.load T28 rfl (cellsIs_at0 (rd_at (Ent.at 7 rfl (Up.rd _ _ _ _) row_rd) (mget _ (by assumption))) rfl)) rfl ?_ | refine OL.q (Y.load T28 rfl (cellsIs_at (rd_at (Ent.at 7 rfl (Up.rd _ _ _ _) row_rd) (mget _ (by assumption))) rfl)) rfl ?_ | refine OL.q (Y.load T28 rfl (cellsIs_at0 (rd_at (Ent.at 8 rfl (Up.rd _ _ _ _) row_rd) (mget _ (by assumption))) rfl)) rfl ?_ | refine OL.q (Y.load T28 rfl (cellsIs_at (rd_at (Ent.at 8 rfl (Up.rd _ _ _ _) row_rd) (mget _ (by assumption))) rfl)) rfl ?_ | refine OL.q (Y.load T28 rfl (cellsIs_at0 (rd_at (Ent.frame (Up.rd _ _ _ _) (fun h hs => imm_ent (Up.rd _ _ _ _) (by assumption) h (hF h hs))) (mget _ (by assumption))) rfl)) rfl ?_ | refine OL.q (Y.load T28 rfl (cellsIs_at (rd_at (Ent.frame (Up.rd _ _ _ _) (fun h hs => imm_ent (Up.rd _ _ _ _) (by assumption) h (hF h hs))) (mget _ (by assumption))) rfl)) rfl ?_
                  refine OL.q (Y.lenSl Tryd.underlying28 rfl) rfl ?_
                  refine OL.q (Y.move rfl) rfl ?_
                  refine OL.nil ?_
                  refine EX.seq ?_
                  refine CW.block ?_
                  refine CW.loop (α := Nat) ⟨(fun j => j ≤ x.n), (fun j => [(3, Value.pointer (some { block := t, off := 0 })), (4, Value.slice ka A.funs.length kc), (6, Value.pointer (some { block := b6, off := 0 })), (7, Value.int IntKind.i64 (A.sort x.name x.args).fst), (8, Value.int IntKind.i64 (A.sort x.name x.args).snd.fst), (25, Value.slice a n c), (26, Value.int IntKind.i64 ↑n), (27, Value.int IntKind.i64 ↑k), (95, Value.slice x.a x.n x.c), (96, Value.int IntKind.i64 ↑x.n), (97, .int .i64 j)]), (fun j => [arena t (A.sort x.name x.args).snd.snd, row ka A.funs.length kc 38 3 (List.map funCells kf), blk b6 (setR [Value.int IntKind.i64 0, Value.string { data := #[] }, Value.slice none 0 0, Value.int IntKind.i64 0, Value.int IntKind.i64 0, Value.int IntKind.i64 0, Value.slice none 0 0, Value.string { data := #[] }] 0 (actCells x)) 32, row sa2 (A.sort x.name x.args).snd.snd.sorts.length sc2 57 2 (List.map sortCells ss), imm M2, row sa3 (A.sort x.name x.args).snd.snd.sorts.length sc3 57 2 (List.map sortCells ss3), imm M3, row sa4 (A.sort x.name x.args).snd.snd.sorts.length sc4 57 2 (List.map sortCells ss4), imm M4])⟩
                    (fun j => (x.n - j : Nat)) 0 [0, 1, 2, 3, 4, 5, 6, 7, 8] (Nat.zero_le _) ⟨rfl, rfl, rfl, rfl, rfl, rfl, rfl, rfl, rfl, rfl, rfl, trivial⟩ rfl rfl ?_
                  rintro j hj
                  dsimp only at hj ⊢
                  refine CW.seq ?_
                  refine CW.region ?_
                  refine OL.q (Y.lss rfl rfl) rfl ?_
                  refine OL.nil ?_
                  refine EX.seq ?_
                  refine CW.seq ?_
                  refine CW.cond rfl (fun h5 => ?_) (fun h5 => ?_)
                  · have bh5 := h5
                    repeat (first | replace h5 := yes h5 | replace h5 := no h5 | replace h5 := nyes h5 | replace h5 := nno h5)
                    obtain ⟨z, hz⟩ : ∃ p, x.args[j]? = some p := ⟨_, List.getElem?_eq_getElem (by omega)⟩
                    refine CW.skip ?_
                    refine EX.seq ?_
                    refine CW.seq ?_
                    refine CW.block ?_
                    refine CW.seq ?_
                    refine CW.region ?_
                    first | refine OL.q (Y.index Tryd.underlying28 C3 rfl rfl (Ent.at 0 rfl (Up.rd _ _ _ _) row_rd) rfl (by omega)) rfl ?_ | refine OL.q (Y.index Tryd.underlying28 C3 rfl rfl (Ent.at 1 rfl (Up.rd _ _ _ _) row_rd) rfl (by omega)) rfl ?_ | refine OL.q (Y.index Tryd.underlying28 C3 rfl rfl (Ent.at 2 rfl (Up.rd _ _ _ _) row_rd) rfl (by omega)) rfl ?_ | refine OL.q (Y.index Tryd.underlying28 C3 rfl rfl (Ent.at 3 rfl (Up.rd _ _ _ _) row_rd) rfl (by omega)) rfl ?_ | refine OL.q (Y.index Tryd.underlying28 C3 rfl rfl (Ent.at 4 rfl (Up.rd _ _ _ _) row_rd) rfl (by omega)) rfl ?_ | refine OL.q (Y.index Tryd.underlying28 C3 rfl rfl (Ent.at 5 rfl (Up.rd _ _ _ _) row_rd) rfl (by omega)) rfl ?_ | refine OL.q (Y.index Tryd.underlying28 C3 rfl rfl (Ent.at 6 rfl (Up.rd _ _ _ _) row_rd) rfl (by omega)) rfl ?_ | refine OL.q (Y.index Tryd.underlying28 C3 rfl rfl (Ent.at 7 rfl (Up.rd _ _ _ _) row_rd) rfl (by omega)) rfl ?_ | refine OL.q (Y.index Tryd.underlying28 C3 rfl rfl (Ent.at 8 rfl (Up.rd _ _ _ _) row_rd) rfl (by omega)) rfl ?_ | refine OL.q (Y.index Tryd.underlying28 C3 rfl rfl (Ent.frame (Up.rd _ _ _ _) (fun h hs => imm_ent (Up.rd _ _ _ _) (by assumption) h (hF h hs))) rfl (by omega)) rfl ?_
                    first | refine OL.q (Y.load T3 rfl (Ent.at 0 rfl (Up.cellIs _ _ _) (blk_cell rfl))) rfl ?_ | refine OL.q (Y.load T3 rfl (Ent.at 1 rfl (Up.cellIs _ _ _) (blk_cell rfl))) rfl ?_ | refine OL.q (Y.load T3 rfl (Ent.at 2 rfl (Up.cellIs _ _ _) (blk_cell rfl))) rfl ?_ | refine OL.q (Y.load T3 rfl (Ent.at 3 rfl (Up.cellIs _ _ _) (blk_cell rfl))) rfl ?_ | refine OL.q (Y.load T3 rfl (Ent.at 4 rfl (Up.cellIs _ _ _) (blk_cell rfl))) rfl ?_ | refine OL.q (Y.load T3 rfl (Ent.at 5 rfl (Up.cellIs _ _ _) (blk_cell rfl))) rfl ?_ | refine OL.q (Y.load T3 rfl (Ent.at 6 rfl (Up.cellIs _ _ _) (blk_cell rfl))) rfl ?_ | refine OL.q (Y.load T3 rfl (Ent.at 7 rfl (Up.cellIs _ _ _) (blk_cell rfl))) rfl ?_ | refine OL.q (Y.load T3 rfl (Ent.at 8 rfl (Up.cellIs _ _ _) (blk_cell rfl))) rfl ?_ | refine OL.q (Y.load T3 rfl (cellsIs_at0 (rd_at (Ent.at 0 rfl (Up.rd _ _ _ _) row_rd) (mget _ (by assumption))) rfl)) rfl ?_ | refine OL.q (Y.load T3 rfl (cellsIs_at (rd_at (Ent.at 0 rfl (Up.rd _ _ _ _) row_rd) (mget _ (by assumption))) rfl)) rfl ?_ | refine OL.q (Y.load T3 rfl (cellsIs_at0 (rd_at (Ent.at 1 rfl (Up.rd _ _ _ _) row_rd) (mget _ (by assumption))) rfl)) rfl ?_ | refine OL.q (Y.load T3 rfl (cellsIs_at (rd_at (Ent.at 1 rfl (Up.rd _ _ _ _) row_rd) (mget _ (by assumption))) rfl)) rfl ?_ | refine OL.q (Y.load T3 rfl (cellsIs_at0 (rd_at (Ent.at 2 rfl (Up.rd _ _ _ _) row_rd) (mget _ (by assumption))) rfl)) rfl ?_ | refine OL.q (Y.load T3 rfl (cellsIs_at (rd_at (Ent.at 2 rfl (Up.rd _ _ _ _) row_rd) (mget _ (by assumption))) rfl)) rfl ?_ | refine OL.q (Y.load T3 rfl (cellsIs_at0 (rd_at (Ent.at 3 rfl (Up.rd _ _ _ _) row_rd) (mget _ (by assumption))) rfl)) rfl ?_ | refine OL.q (Y.load T3 rfl (cellsIs_at (rd_at (Ent.at 3 rfl (Up.rd _ _ _ _) row_rd) (mget _ (by assumption))) rfl)) rfl ?_ | refine OL.q (Y.load T3 rfl (cellsIs_at0 (rd_at (Ent.at 4 rfl (Up.rd _ _ _ _) row_rd) (mget _ (by assumption))) rfl)) rfl ?_ | refine OL.q (Y.load T3 rfl (cellsIs_at (rd_at (Ent.at 4 rfl (Up.rd _ _ _ _) row_rd) (mget _ (by assumption))) rfl)) rfl ?_ | refine OL.q (Y.load T3 rfl (cellsIs_at0 (rd_at (Ent.at 5 rfl (Up.rd _ _ _ _) row_rd) (mget _ (by assumption))) rfl)) rfl ?_ | refine OL.q (Y.load T3 rfl (cellsIs_at (rd_at (Ent.at 5 rfl (Up.rd _ _ _ _) row_rd) (mget _ (by assumption))) rfl)) rfl ?_ | refine OL.q (Y.load T3 rfl (cellsIs_at0 (rd_at (Ent.at 6 rfl (Up.rd _ _ _ _) row_rd) (mget _ (by assumption))) rfl)) rfl ?_ | refine OL.q (Y.load T3 rfl (cellsIs_at (rd_at (Ent.at 6 rfl (Up.rd _ _ _ _) row_rd) (mget _ (by assumption))) rfl)) rfl ?_ | refine OL.q (Y.load T3 rfl (cellsIs_at0 (rd_at (Ent.at 7 rfl (Up.rd _ _ _ _) row_rd) (mget _ (by assumption))) rfl)) rfl ?_ | refine OL.q (Y.load T3 rfl (cellsIs_at (rd_at (Ent.at 7 rfl (Up.rd _ _ _ _) row_rd) (mget _ (by assumption))) rfl)) rfl ?_ | refine OL.q (Y.load T3 rfl (cellsIs_at0 (rd_at (Ent.at 8 rfl (Up.rd _ _ _ _) row_rd) (mget _ (by assumption))) rfl)) rfl ?_ | refine OL.q (Y.load T3 rfl (cellsIs_at (rd_at (Ent.at 8 rfl (Up.rd _ _ _ _) row_rd) (mget _ (by assumption))) rfl)) rfl ?_ | refine OL.q (Y.load T3 rfl (cellsIs_at0 (rd_at (Ent.frame (Up.rd _ _ _ _) (fun h hs => imm_ent (Up.rd _ _ _ _) (by assumption) h (hF h hs))) (mget _ (by assumption))) rfl)) rfl ?_ | refine OL.q (Y.load T3 rfl (cellsIs_at (rd_at (Ent.frame (Up.rd _ _ _ _) (fun h hs => imm_ent (Up.rd _ _ _ _) (by assumption) h (hF h hs))) (mget _ (by assumption))) rfl)) rfl ?_
                    refine OL.q (Y.assign rfl) rfl ?_
                    refine OL.nil ?_
                    refine EX.seq ?_
                    refine CW.seq ?_
                    refine CW.region ?_
                    refine OL.q (Y.move rfl) rfl ?_
                    refine OL.q (Y.eql rfl rfl) rfl ?_
                    refine OL.q (Y.move rfl) rfl ?_
                    refine OL.guard (s := 103) rfl (fun g18_2 => ?_) (fun g18_2 => ?_)
                    · have ng18_2 := g18_2
                      repeat (first | replace ng18_2 := yes ng18_2 | replace ng18_2 := no ng18_2 | replace ng18_2 := nyes ng18_2 | replace ng18_2 := nno ng18_2)
                      refine OL.on g18_2 rfl rfl ?_
                      refine OL.q (Y.move rfl) rfl ?_
                      refine OL.on g18_2 rfl rfl ?_
                      refine OL.q (Y.move rfl) rfl ?_
                      refine OL.on g18_2 rfl rfl ?_
                      refine OL.q (Y.geq rfl rfl) rfl ?_
                      refine OL.q (Y.pickT rfl g18_2 rfl) rfl ?_
                      refine OL.nil ?_
                      refine EX.seq ?_
                      refine CW.cond rfl (fun h6 => ?_) (fun h6 => ?_)
                      · repeat (first | replace h6 := yes h6 | replace h6 := no h6 | replace h6 := nyes h6 | replace h6 := nno h6)
                        exfalso
                        rcases hst with h | ⟨_, m, hm, hAm⟩
                        · omega
                        · have h9 := hSo2.2 m _ hAm z (mem_of hz)
                          omega
                      repeat (first | replace h6 := yes h6 | replace h6 := no h6 | replace h6 := nyes h6 | replace h6 := nno h6)
                      refine CW.skip ?_
                      refine EX.norB ?_
                      refine EX.seq ?_
                      refine CW.region ?_
                      first | refine OL.q (Y.add1 rfl rfl rfl (by omega)) rfl ?_ | refine OL.q (Y.addN rfl rfl (by omega)) rfl ?_ | refine OL.q (Y.add rfl rfl (by omega)) rfl ?_
                      refine OL.q (Y.move rfl) rfl ?_
                      refine OL.nil ?_
                      exact EX.next (j + 1) [0, 1, 2, 3, 4, 5, 6, 7, 8] (by first | omega | (dsimp only; omega)) (by first | omega | (dsimp only; omega)) ⟨rfl, rfl, rfl, rfl, rfl, rfl, rfl, rfl, rfl, rfl, rfl, trivial⟩ rfl rfl
                    · have ng18_2 := g18_2
                      repeat (first | replace ng18_2 := yes ng18_2 | replace ng18_2 := no ng18_2 | replace ng18_2 := nyes ng18_2 | replace ng18_2 := nno ng18_2)
                      refine OL.no g18_2 rfl rfl rfl ?_
                      refine OL.no g18_2 rfl rfl rfl ?_
                      refine OL.no g18_2 rfl rfl rfl ?_
                      refine OL.q (Y.pickF rfl g18_2 rfl) rfl ?_
                      refine OL.nil ?_
                      refine EX.seq ?_
                      refine CW.condF rfl (rfl) ?_
                      refine CW.skip ?_
                      refine EX.norB ?_
                      refine EX.seq ?_
                      refine CW.region ?_
                      first | refine OL.q (Y.add1 rfl rfl rfl (by omega)) rfl ?_ | refine OL.q (Y.addN rfl rfl (by omega)) rfl ?_ | refine OL.q (Y.add rfl rfl (by omega)) rfl ?_
                      refine OL.q (Y.move rfl) rfl ?_
                      refine OL.nil ?_
                      exact EX.next (j + 1) [0, 1, 2, 3, 4, 5, 6, 7, 8] (by first | omega | (dsimp only; omega)) (by first | omega | (dsimp only; omega)) ⟨rfl, rfl, rfl, rfl, rfl, rfl, rfl, rfl, rfl, rfl, rfl, trivial⟩ rfl rfl
                  · have bh5 := h5
                    repeat (first | replace h5 := yes h5 | replace h5 := no h5 | replace h5 := nyes h5 | replace h5 := nno h5)
                    refine CW.exit ?_
                    refine EX.exitT ?_
                    refine EX.exitT ?_
                    refine EX.exitB ?_
                    refine EX.seq ?_
                    refine CW.seq ?_
                    refine CW.region ?_
                    refine OL.q (Y.field L32_0 rfl) rfl ?_
                    first | refine OL.q (Y.load T3 rfl (Ent.at 0 rfl (Up.cellIs _ _ _) (blk_cell rfl))) rfl ?_ | refine OL.q (Y.load T3 rfl (Ent.at 1 rfl (Up.cellIs _ _ _) (blk_cell rfl))) rfl ?_ | refine OL.q (Y.load T3 rfl (Ent.at 2 rfl (Up.cellIs _ _ _) (blk_cell rfl))) rfl ?_ | refine OL.q (Y.load T3 rfl (Ent.at 3 rfl (Up.cellIs _ _ _) (blk_cell rfl))) rfl ?_ | refine OL.q (Y.load T3 rfl (Ent.at 4 rfl (Up.cellIs _ _ _) (blk_cell rfl))) rfl ?_ | refine OL.q (Y.load T3 rfl (Ent.at 5 rfl (Up.cellIs _ _ _) (blk_cell rfl))) rfl ?_ | refine OL.q (Y.load T3 rfl (Ent.at 6 rfl (Up.cellIs _ _ _) (blk_cell rfl))) rfl ?_ | refine OL.q (Y.load T3 rfl (Ent.at 7 rfl (Up.cellIs _ _ _) (blk_cell rfl))) rfl ?_ | refine OL.q (Y.load T3 rfl (Ent.at 8 rfl (Up.cellIs _ _ _) (blk_cell rfl))) rfl ?_ | refine OL.q (Y.load T3 rfl (cellsIs_at0 (rd_at (Ent.at 0 rfl (Up.rd _ _ _ _) row_rd) (mget _ (by assumption))) rfl)) rfl ?_ | refine OL.q (Y.load T3 rfl (cellsIs_at (rd_at (Ent.at 0 rfl (Up.rd _ _ _ _) row_rd) (mget _ (by assumption))) rfl)) rfl ?_ | refine OL.q (Y.load T3 rfl (cellsIs_at0 (rd_at (Ent.at 1 rfl (Up.rd _ _ _ _) row_rd) (mget _ (by assumption))) rfl)) rfl ?_ | refine OL.q (Y.load T3 rfl (cellsIs_at (rd_at (Ent.at 1 rfl (Up.rd _ _ _ _) row_rd) (mget _ (by assumption))) rfl)) rfl ?_ | refine OL.q (Y.load T3 rfl (cellsIs_at0 (rd_at (Ent.at 2 rfl (Up.rd _ _ _ _) row_rd) (mget _ (by assumption))) rfl)) rfl ?_ | refine OL.q (Y.load T3 rfl (cellsIs_at (rd_at (Ent.at 2 rfl (Up.rd _ _ _ _) row_rd) (mget _ (by assumption))) rfl)) rfl ?_ | refine OL.q (Y.load T3 rfl (cellsIs_at0 (rd_at (Ent.at 3 rfl (Up.rd _ _ _ _) row_rd) (mget _ (by assumption))) rfl)) rfl ?_ | refine OL.q (Y.load T3 rfl (cellsIs_at (rd_at (Ent.at 3 rfl (Up.rd _ _ _ _) row_rd) (mget _ (by assumption))) rfl)) rfl ?_ | refine OL.q (Y.load T3 rfl (cellsIs_at0 (rd_at (Ent.at 4 rfl (Up.rd _ _ _ _) row_rd) (mget _ (by assumption))) rfl)) rfl ?_ | refine OL.q (Y.load T3 rfl (cellsIs_at (rd_at (Ent.at 4 rfl (Up.rd _ _ _ _) row_rd) (mget _ (by assumption))) rfl)) rfl ?_ | refine OL.q (Y.load T3 rfl (cellsIs_at0 (rd_at (Ent.at 5 rfl (Up.rd _ _ _ _) row_rd) (mget _ (by assumption))) rfl)) rfl ?_ | refine OL.q (Y.load T3 rfl (cellsIs_at (rd_at (Ent.at 5 rfl (Up.rd _ _ _ _) row_rd) (mget _ (by assumption))) rfl)) rfl ?_ | refine OL.q (Y.load T3 rfl (cellsIs_at0 (rd_at (Ent.at 6 rfl (Up.rd _ _ _ _) row_rd) (mget _ (by assumption))) rfl)) rfl ?_ | refine OL.q (Y.load T3 rfl (cellsIs_at (rd_at (Ent.at 6 rfl (Up.rd _ _ _ _) row_rd) (mget _ (by assumption))) rfl)) rfl ?_ | refine OL.q (Y.load T3 rfl (cellsIs_at0 (rd_at (Ent.at 7 rfl (Up.rd _ _ _ _) row_rd) (mget _ (by assumption))) rfl)) rfl ?_ | refine OL.q (Y.load T3 rfl (cellsIs_at (rd_at (Ent.at 7 rfl (Up.rd _ _ _ _) row_rd) (mget _ (by assumption))) rfl)) rfl ?_ | refine OL.q (Y.load T3 rfl (cellsIs_at0 (rd_at (Ent.at 8 rfl (Up.rd _ _ _ _) row_rd) (mget _ (by assumption))) rfl)) rfl ?_ | refine OL.q (Y.load T3 rfl (cellsIs_at (rd_at (Ent.at 8 rfl (Up.rd _ _ _ _) row_rd) (mget _ (by assumption))) rfl)) rfl ?_ | refine OL.q (Y.load T3 rfl (cellsIs_at0 (rd_at (Ent.frame (Up.rd _ _ _ _) (fun h hs => imm_ent (Up.rd _ _ _ _) (by assumption) h (hF h hs))) (mget _ (by assumption))) rfl)) rfl ?_ | refine OL.q (Y.load T3 rfl (cellsIs_at (rd_at (Ent.frame (Up.rd _ _ _ _) (fun h hs => imm_ent (Up.rd _ _ _ _) (by assumption) h (hF h hs))) (mget _ (by assumption))) rfl)) rfl ?_
                    refine OL.q (Y.eql rfl rfl) rfl ?_
                    refine OL.nil ?_
                    refine EX.seq ?_
                    refine CW.cond rfl (fun h7 => ?_) (fun h7 => ?_)
                    · repeat (first | replace h7 := yes h7 | replace h7 := no h7 | replace h7 := nyes h7 | replace h7 := nno h7)
                      exfalso
                      first | omega | contradiction | exact absurd rfl h7 | exact absurd h7 (by simp) | exact absurd h7 (by decide)
                    repeat (first | replace h7 := yes h7 | replace h7 := no h7 | replace h7 := nyes h7 | replace h7 := nno h7)
                    refine CW.skip ?_
                    refine EX.norB ?_
                    refine EX.seq ?_
                    refine CW.region ?_
                    first | refine OL.q (Y.add1 rfl rfl rfl (by omega)) rfl ?_ | refine OL.q (Y.addN rfl rfl (by omega)) rfl ?_ | refine OL.q (Y.add rfl rfl (by omega)) rfl ?_
                    refine OL.q (Y.move rfl) rfl ?_
                    refine OL.nil ?_
                    exact EX.next (k + 1, (A.sort x.name x.args).2.2, kf, ka, kc) [0, 1] (by dsimp only; exact ⟨by omega, hSo2, by rw [hter]; exact hT, by rw [hfun]; exact hkf, hko, by omega, by omega⟩) (by first | omega | (dsimp only; omega)) (by simp only [hfun]; exact ⟨rfl, rfl, rfl, rfl, rfl, trivial⟩) rfl (by show [_, _] = [_, _]; simp only [hfun] <;> rfl)
            · have ng13_11 := g13_11
              repeat (first | replace ng13_11 := yes ng13_11 | replace ng13_11 := no ng13_11 | replace ng13_11 := nyes ng13_11 | replace ng13_11 := nno ng13_11)
              refine OL.tno g13_11 rfl rfl rfl ?_
              refine OL.tno g13_11 rfl rfl rfl ?_
              refine OL.no g13_11 rfl rfl rfl ?_
              refine OL.tno g13_11 rfl rfl rfl ?_
              refine OL.tno g13_11 rfl rfl rfl ?_
              refine OL.tno g13_11 rfl rfl rfl ?_
              refine OL.tdead rfl rfl rfl ?_
              refine OL.tdead rfl rfl rfl ?_
              refine OL.tdead rfl rfl rfl ?_
              refine OL.tdead rfl rfl rfl ?_
              refine OL.dead rfl rfl rfl ?_
              refine OL.dead rfl rfl rfl ?_
              refine OL.tdead rfl rfl rfl ?_
              refine OL.dead rfl rfl rfl ?_
              refine OL.tdead rfl rfl rfl ?_
              refine OL.tno g13_11 rfl rfl rfl ?_
              refine OL.tno g13_11 rfl rfl rfl ?_
              refine OL.tdead rfl rfl rfl ?_
              refine OL.tdead rfl rfl rfl ?_
              refine OL.tdead rfl rfl rfl ?_
              refine OL.tdead rfl rfl rfl ?_
              refine OL.dead rfl rfl rfl ?_
              refine OL.dead rfl rfl rfl ?_
              refine OL.tdead rfl rfl rfl ?_
              refine OL.dead rfl rfl rfl ?_
              refine OL.dead rfl rfl rfl ?_
              refine OL.tdead rfl rfl rfl ?_
              refine OL.tno g13_11 rfl rfl rfl ?_
              refine OL.ont g13_8 rfl rfl ?_
              refine OL.qt (Y.pickF rfl g13_11 rfl) rfl ?_
              refine OL.qt (Y.pickF rfl g13_8 rfl) rfl ?_
              refine OL.nil ?_
              refine EX.tail ?_
              refine OL.nil ?_
              refine EX.seq ?_
              refine CW.condF rfl (rfl) ?_
              refine CW.skip ?_
              refine EX.seq ?_
              refine CW.seq ?_
              refine CW.region ?_
              refine OL.q (Y.field L32_2 rfl) rfl ?_
              first | refine OL.q (Y.load T28 rfl (Ent.at 0 rfl (Up.cellIs _ _ _) (blk_cell rfl))) rfl ?_ | refine OL.q (Y.load T28 rfl (Ent.at 1 rfl (Up.cellIs _ _ _) (blk_cell rfl))) rfl ?_ | refine OL.q (Y.load T28 rfl (Ent.at 2 rfl (Up.cellIs _ _ _) (blk_cell rfl))) rfl ?_ | refine OL.q (Y.load T28 rfl (Ent.at 3 rfl (Up.cellIs _ _ _) (blk_cell rfl))) rfl ?_ | refine OL.q (Y.load T28 rfl (Ent.at 4 rfl (Up.cellIs _ _ _) (blk_cell rfl))) rfl ?_ | refine OL.q (Y.load T28 rfl (Ent.at 5 rfl (Up.cellIs _ _ _) (blk_cell rfl))) rfl ?_ | refine OL.q (Y.load T28 rfl (Ent.at 6 rfl (Up.cellIs _ _ _) (blk_cell rfl))) rfl ?_ | refine OL.q (Y.load T28 rfl (Ent.at 7 rfl (Up.cellIs _ _ _) (blk_cell rfl))) rfl ?_ | refine OL.q (Y.load T28 rfl (Ent.at 8 rfl (Up.cellIs _ _ _) (blk_cell rfl))) rfl ?_ | refine OL.q (Y.load T28 rfl (cellsIs_at0 (rd_at (Ent.at 0 rfl (Up.rd _ _ _ _) row_rd) (mget _ (by assumption))) rfl)) rfl ?_ | refine OL.q (Y.load T28 rfl (cellsIs_at (rd_at (Ent.at 0 rfl (Up.rd _ _ _ _) row_rd) (mget _ (by assumption))) rfl)) rfl ?_ | refine OL.q (Y.load T28 rfl (cellsIs_at0 (rd_at (Ent.at 1 rfl (Up.rd _ _ _ _) row_rd) (mget _ (by assumption))) rfl)) rfl ?_ | refine OL.q (Y.load T28 rfl (cellsIs_at (rd_at (Ent.at 1 rfl (Up.rd _ _ _ _) row_rd) (mget _ (by assumption))) rfl)) rfl ?_ | refine OL.q (Y.load T28 rfl (cellsIs_at0 (rd_at (Ent.at 2 rfl (Up.rd _ _ _ _) row_rd) (mget _ (by assumption))) rfl)) rfl ?_ | refine OL.q (Y.load T28 rfl (cellsIs_at (rd_at (Ent.at 2 rfl (Up.rd _ _ _ _) row_rd) (mget _ (by assumption))) rfl)) rfl ?_ | refine OL.q (Y.load T28 rfl (cellsIs_at0 (rd_at (Ent.at 3 rfl (Up.rd _ _ _ _) row_rd) (mget _ (by assumption))) rfl)) rfl ?_ | refine OL.q (Y.load T28 rfl (cellsIs_at (rd_at (Ent.at 3 rfl (Up.rd _ _ _ _) row_rd) (mget _ (by assumption))) rfl)) rfl ?_ | refine OL.q (Y.load T28 rfl (cellsIs_at0 (rd_at (Ent.at 4 rfl (Up.rd _ _ _ _) row_rd) (mget _ (by assumption))) rfl)) rfl ?_ | refine OL.q (Y.load T28 rfl (cellsIs_at (rd_at (Ent.at 4 rfl (Up.rd _ _ _ _) row_rd) (mget _ (by assumption))) rfl)) rfl ?_ | refine OL.q (Y.load T28 rfl (cellsIs_at0 (rd_at (Ent.at 5 rfl (Up.rd _ _ _ _) row_rd) (mget _ (by assumption))) rfl)) rfl ?_ | refine OL.q (Y.load T28 rfl (cellsIs_at (rd_at (Ent.at 5 rfl (Up.rd _ _ _ _) row_rd) (mget _ (by assumption))) rfl)) rfl ?_ | refine OL.q (Y.load T28 rfl (cellsIs_at0 (rd_at (Ent.at 6 rfl (Up.rd _ _ _ _) row_rd) (mget _ (by assumption))) rfl)) rfl ?_ | refine OL.q (Y.load T28 rfl (cellsIs_at (rd_at (Ent.at 6 rfl (Up.rd _ _ _ _) row_rd) (mget _ (by assumption))) rfl)) rfl ?_ | refine OL.q (Y.load T28 rfl (cellsIs_at0 (rd_at (Ent.at 7 rfl (Up.rd _ _ _ _) row_rd) (mget _ (by assumption))) rfl)) rfl ?_ | refine OL.q (Y.load T28 rfl (cellsIs_at (rd_at (Ent.at 7 rfl (Up.rd _ _ _ _) row_rd) (mget _ (by assumption))) rfl)) rfl ?_ | refine OL.q (Y.load T28 rfl (cellsIs_at0 (rd_at (Ent.at 8 rfl (Up.rd _ _ _ _) row_rd) (mget _ (by assumption))) rfl)) rfl ?_ | refine OL.q (Y.load T28 rfl (cellsIs_at (rd_at (Ent.at 8 rfl (Up.rd _ _ _ _) row_rd) (mget _ (by assumption))) rfl)) rfl ?_ | refine OL.q (Y.load T28 rfl (cellsIs_at0 (rd_at (Ent.frame (Up.rd _ _ _ _) (fun h hs => imm_ent (Up.rd _ _ _ _) (by assumption) h (hF h hs))) (mget _ (by assumption))) rfl)) rfl ?_ | refine OL.q (Y.load T28 rfl (cellsIs_at (rd_at (Ent.frame (Up.rd _ _ _ _) (fun h hs => imm_ent (Up.rd _ _ _ _) (by assumption) h (hF h hs))) (mget _ (by assumption))) rfl)) rfl ?_
              refine OL.q (Y.lenSl Tryd.underlying28 rfl) rfl ?_
              refine OL.q (Y.move rfl) rfl ?_
              refine OL.nil ?_
              refine EX.seq ?_
              refine CW.block ?_
              refine CW.loop (α := Nat) ⟨(fun j => j ≤ x.n), (fun j => [(3, Value.pointer (some { block := t, off := 0 })), (4, Value.slice ka A.funs.length kc), (6, Value.pointer (some { block := b6, off := 0 })), (7, Value.int IntKind.i64 (A.sort x.name x.args).fst), (8, Value.int IntKind.i64 (A.sort x.name x.args).snd.fst), (25, Value.slice a n c), (26, Value.int IntKind.i64 ↑n), (27, Value.int IntKind.i64 ↑k), (95, Value.slice x.a x.n x.c), (96, Value.int IntKind.i64 ↑x.n), (97, .int .i64 j)]), (fun j => [arena t (A.sort x.name x.args).snd.snd, row ka A.funs.length kc 38 3 (List.map funCells kf), blk b6 (setR [Value.int IntKind.i64 0, Value.string { data := #[] }, Value.slice none 0 0, Value.int IntKind.i64 0, Value.int IntKind.i64 0, Value.int IntKind.i64 0, Value.slice none 0 0, Value.string { data := #[] }] 0 (actCells x)) 32])⟩
                (fun j => (x.n - j : Nat)) 0 [0, 1, 2] (Nat.zero_le _) ⟨rfl, rfl, rfl, rfl, rfl, rfl, rfl, rfl, rfl, rfl, rfl, trivial⟩ rfl rfl ?_
              rintro j hj
              dsimp only at hj ⊢
              refine CW.seq ?_
              refine CW.region ?_
              refine OL.q (Y.lss rfl rfl) rfl ?_
              refine OL.nil ?_
              refine EX.seq ?_
              refine CW.seq ?_
              refine CW.cond rfl (fun h5 => ?_) (fun h5 => ?_)
              · have bh5 := h5
                repeat (first | replace h5 := yes h5 | replace h5 := no h5 | replace h5 := nyes h5 | replace h5 := nno h5)
                obtain ⟨z, hz⟩ : ∃ p, x.args[j]? = some p := ⟨_, List.getElem?_eq_getElem (by omega)⟩
                refine CW.skip ?_
                refine EX.seq ?_
                refine CW.seq ?_
                refine CW.block ?_
                refine CW.seq ?_
                refine CW.region ?_
                first | refine OL.q (Y.index Tryd.underlying28 C3 rfl rfl (Ent.at 0 rfl (Up.rd _ _ _ _) row_rd) rfl (by omega)) rfl ?_ | refine OL.q (Y.index Tryd.underlying28 C3 rfl rfl (Ent.at 1 rfl (Up.rd _ _ _ _) row_rd) rfl (by omega)) rfl ?_ | refine OL.q (Y.index Tryd.underlying28 C3 rfl rfl (Ent.at 2 rfl (Up.rd _ _ _ _) row_rd) rfl (by omega)) rfl ?_ | refine OL.q (Y.index Tryd.underlying28 C3 rfl rfl (Ent.at 3 rfl (Up.rd _ _ _ _) row_rd) rfl (by omega)) rfl ?_ | refine OL.q (Y.index Tryd.underlying28 C3 rfl rfl (Ent.at 4 rfl (Up.rd _ _ _ _) row_rd) rfl (by omega)) rfl ?_ | refine OL.q (Y.index Tryd.underlying28 C3 rfl rfl (Ent.at 5 rfl (Up.rd _ _ _ _) row_rd) rfl (by omega)) rfl ?_ | refine OL.q (Y.index Tryd.underlying28 C3 rfl rfl (Ent.at 6 rfl (Up.rd _ _ _ _) row_rd) rfl (by omega)) rfl ?_ | refine OL.q (Y.index Tryd.underlying28 C3 rfl rfl (Ent.at 7 rfl (Up.rd _ _ _ _) row_rd) rfl (by omega)) rfl ?_ | refine OL.q (Y.index Tryd.underlying28 C3 rfl rfl (Ent.at 8 rfl (Up.rd _ _ _ _) row_rd) rfl (by omega)) rfl ?_ | refine OL.q (Y.index Tryd.underlying28 C3 rfl rfl (Ent.frame (Up.rd _ _ _ _) (fun h hs => imm_ent (Up.rd _ _ _ _) (by assumption) h (hF h hs))) rfl (by omega)) rfl ?_
                first | refine OL.q (Y.load T3 rfl (Ent.at 0 rfl (Up.cellIs _ _ _) (blk_cell rfl))) rfl ?_ | refine OL.q (Y.load T3 rfl (Ent.at 1 rfl (Up.cellIs _ _ _) (blk_cell rfl))) rfl ?_ | refine OL.q (Y.load T3 rfl (Ent.at 2 rfl (Up.cellIs _ _ _) (blk_cell rfl))) rfl ?_ | refine OL.q (Y.load T3 rfl (Ent.at 3 rfl (Up.cellIs _ _ _) (blk_cell rfl))) rfl ?_ | refine OL.q (Y.load T3 rfl (Ent.at 4 rfl (Up.cellIs _ _ _) (blk_cell rfl))) rfl ?_ | refine OL.q (Y.load T3 rfl (Ent.at 5 rfl (Up.cellIs _ _ _) (blk_cell rfl))) rfl ?_ | refine OL.q (Y.load T3 rfl (Ent.at 6 rfl (Up.cellIs _ _ _) (blk_cell rfl))) rfl ?_ | refine OL.q (Y.load T3 rfl (Ent.at 7 rfl (Up.cellIs _ _ _) (blk_cell rfl))) rfl ?_ | refine OL.q (Y.load T3 rfl (Ent.at 8 rfl (Up.cellIs _ _ _) (blk_cell rfl))) rfl ?_ | refine OL.q (Y.load T3 rfl (cellsIs_at0 (rd_at (Ent.at 0 rfl (Up.rd _ _ _ _) row_rd) (mget _ (by assumption))) rfl)) rfl ?_ | refine OL.q (Y.load T3 rfl (cellsIs_at (rd_at (Ent.at 0 rfl (Up.rd _ _ _ _) row_rd) (mget _ (by assumption))) rfl)) rfl ?_ | refine OL.q (Y.load T3 rfl (cellsIs_at0 (rd_at (Ent.at 1 rfl (Up.rd _ _ _ _) row_rd) (mget _ (by assumption))) rfl)) rfl ?_ | refine OL.q (Y.load T3 rfl (cellsIs_at (rd_at (Ent.at 1 rfl (Up.rd _ _ _ _) row_rd) (mget _ (by assumption))) rfl)) rfl ?_ | refine OL.q (Y.load T3 rfl (cellsIs_at0 (rd_at (Ent.at 2 rfl (Up.rd _ _ _ _) row_rd) (mget _ (by assumption))) rfl)) rfl ?_ | refine OL.q (Y.load T3 rfl (cellsIs_at (rd_at (Ent.at 2 rfl (Up.rd _ _ _ _) row_rd) (mget _ (by assumption))) rfl)) rfl ?_ | refine OL.q (Y.load T3 rfl (cellsIs_at0 (rd_at (Ent.at 3 rfl (Up.rd _ _ _ _) row_rd) (mget _ (by assumption))) rfl)) rfl ?_ | refine OL.q (Y.load T3 rfl (cellsIs_at (rd_at (Ent.at 3 rfl (Up.rd _ _ _ _) row_rd) (mget _ (by assumption))) rfl)) rfl ?_ | refine OL.q (Y.load T3 rfl (cellsIs_at0 (rd_at (Ent.at 4 rfl (Up.rd _ _ _ _) row_rd) (mget _ (by assumption))) rfl)) rfl ?_ | refine OL.q (Y.load T3 rfl (cellsIs_at (rd_at (Ent.at 4 rfl (Up.rd _ _ _ _) row_rd) (mget _ (by assumption))) rfl)) rfl ?_ | refine OL.q (Y.load T3 rfl (cellsIs_at0 (rd_at (Ent.at 5 rfl (Up.rd _ _ _ _) row_rd) (mget _ (by assumption))) rfl)) rfl ?_ | refine OL.q (Y.load T3 rfl (cellsIs_at (rd_at (Ent.at 5 rfl (Up.rd _ _ _ _) row_rd) (mget _ (by assumption))) rfl)) rfl ?_ | refine OL.q (Y.load T3 rfl (cellsIs_at0 (rd_at (Ent.at 6 rfl (Up.rd _ _ _ _) row_rd) (mget _ (by assumption))) rfl)) rfl ?_ | refine OL.q (Y.load T3 rfl (cellsIs_at (rd_at (Ent.at 6 rfl (Up.rd _ _ _ _) row_rd) (mget _ (by assumption))) rfl)) rfl ?_ | refine OL.q (Y.load T3 rfl (cellsIs_at0 (rd_at (Ent.at 7 rfl (Up.rd _ _ _ _) row_rd) (mget _ (by assumption))) rfl)) rfl ?_ | refine OL.q (Y.load T3 rfl (cellsIs_at (rd_at (Ent.at 7 rfl (Up.rd _ _ _ _) row_rd) (mget _ (by assumption))) rfl)) rfl ?_ | refine OL.q (Y.load T3 rfl (cellsIs_at0 (rd_at (Ent.at 8 rfl (Up.rd _ _ _ _) row_rd) (mget _ (by assumption))) rfl)) rfl ?_ | refine OL.q (Y.load T3 rfl (cellsIs_at (rd_at (Ent.at 8 rfl (Up.rd _ _ _ _) row_rd) (mget _ (by assumption))) rfl)) rfl ?_ | refine OL.q (Y.load T3 rfl (cellsIs_at0 (rd_at (Ent.frame (Up.rd _ _ _ _) (fun h hs => imm_ent (Up.rd _ _ _ _) (by assumption) h (hF h hs))) (mget _ (by assumption))) rfl)) rfl ?_ | refine OL.q (Y.load T3 rfl (cellsIs_at (rd_at (Ent.frame (Up.rd _ _ _ _) (fun h hs => imm_ent (Up.rd _ _ _ _) (by assumption) h (hF h hs))) (mget _ (by assumption))) rfl)) rfl ?_
                refine OL.q (Y.assign rfl) rfl ?_
                refine OL.nil ?_
                refine EX.seq ?_
                refine CW.seq ?_
                refine CW.region ?_
                refine OL.q (Y.move rfl) rfl ?_
                refine OL.q (Y.eql rfl rfl) rfl ?_
                refine OL.q (Y.move rfl) rfl ?_
                refine OL.guard (s := 103) rfl (fun g18_2 => ?_) (fun g18_2 => ?_)
                · have ng18_2 := g18_2
                  repeat (first | replace ng18_2 := yes ng18_2 | replace ng18_2 := no ng18_2 | replace ng18_2 := nyes ng18_2 | replace ng18_2 := nno ng18_2)
                  refine OL.on g18_2 rfl rfl ?_
                  refine OL.q (Y.move rfl) rfl ?_
                  refine OL.on g18_2 rfl rfl ?_
                  refine OL.q (Y.move rfl) rfl ?_
                  refine OL.on g18_2 rfl rfl ?_
                  refine OL.q (Y.geq rfl rfl) rfl ?_
                  refine OL.q (Y.pickT rfl g18_2 rfl) rfl ?_
                  refine OL.nil ?_
                  refine EX.seq ?_
                  refine CW.cond rfl (fun h6 => ?_) (fun h6 => ?_)
                  · repeat (first | replace h6 := yes h6 | replace h6 := no h6 | replace h6 := nyes h6 | replace h6 := nno h6)
                    exfalso
                    rcases hst with h | ⟨_, m, hm, hAm⟩
                    · omega
                    · have h9 := hSo2.2 m _ hAm z (mem_of hz)
                      omega
                  repeat (first | replace h6 := yes h6 | replace h6 := no h6 | replace h6 := nyes h6 | replace h6 := nno h6)
                  refine CW.skip ?_
                  refine EX.norB ?_
                  refine EX.seq ?_
                  refine CW.region ?_
                  first | refine OL.q (Y.add1 rfl rfl rfl (by omega)) rfl ?_ | refine OL.q (Y.addN rfl rfl (by omega)) rfl ?_ | refine OL.q (Y.add rfl rfl (by omega)) rfl ?_
                  refine OL.q (Y.move rfl) rfl ?_
                  refine OL.nil ?_
                  exact EX.next (j + 1) [0, 1, 2] (by first | omega | (dsimp only; omega)) (by first | omega | (dsimp only; omega)) ⟨rfl, rfl, rfl, rfl, rfl, rfl, rfl, rfl, rfl, rfl, rfl, trivial⟩ rfl rfl
                · have ng18_2 := g18_2
                  repeat (first | replace ng18_2 := yes ng18_2 | replace ng18_2 := no ng18_2 | replace ng18_2 := nyes ng18_2 | replace ng18_2 := nno ng18_2)
                  refine OL.no g18_2 rfl rfl rfl ?_
                  refine OL.no g18_2 rfl rfl rfl ?_
                  refine OL.no g18_2 rfl rfl rfl ?_
                  refine OL.q (Y.pickF rfl g18_2 rfl) rfl ?_
                  refine OL.nil ?_
                  refine EX.seq ?_
                  refine CW.condF rfl (rfl) ?_
                  refine CW.skip ?_
                  refine EX.norB ?_
                  refine EX.seq ?_
                  refine CW.region ?_
                  first | refine OL.q (Y.add1 rfl rfl rfl (by omega)) rfl ?_ | refine OL.q (Y.addN rfl rfl (by omega)) rfl ?_ | refine OL.q (Y.add rfl rfl (by omega)) rfl ?_
                  refine OL.q (Y.move rfl) rfl ?_
                  refine OL.nil ?_
                  exact EX.next (j + 1) [0, 1, 2] (by first | omega | (dsimp only; omega)) (by first | omega | (dsimp only; omega)) ⟨rfl, rfl, rfl, rfl, rfl, rfl, rfl, rfl, rfl, rfl, rfl, trivial⟩ rfl rfl
              · have bh5 := h5
                repeat (first | replace h5 := yes h5 | replace h5 := no h5 | replace h5 := nyes h5 | replace h5 := nno h5)
                refine CW.exit ?_
                refine EX.exitT ?_
                refine EX.exitT ?_
                refine EX.exitB ?_
                refine EX.seq ?_
                refine CW.seq ?_
                refine CW.region ?_
                refine OL.q (Y.field L32_0 rfl) rfl ?_
                first | refine OL.q (Y.load T3 rfl (Ent.at 0 rfl (Up.cellIs _ _ _) (blk_cell rfl))) rfl ?_ | refine OL.q (Y.load T3 rfl (Ent.at 1 rfl (Up.cellIs _ _ _) (blk_cell rfl))) rfl ?_ | refine OL.q (Y.load T3 rfl (Ent.at 2 rfl (Up.cellIs _ _ _) (blk_cell rfl))) rfl ?_ | refine OL.q (Y.load T3 rfl (Ent.at 3 rfl (Up.cellIs _ _ _) (blk_cell rfl))) rfl ?_ | refine OL.q (Y.load T3 rfl (Ent.at 4 rfl (Up.cellIs _ _ _) (blk_cell rfl))) rfl ?_ | refine OL.q (Y.load T3 rfl (Ent.at 5 rfl (Up.cellIs _ _ _) (blk_cell rfl))) rfl ?_ | refine OL.q (Y.load T3 rfl (Ent.at 6 rfl (Up.cellIs _ _ _) (blk_cell rfl))) rfl ?_ | refine OL.q (Y.load T3 rfl (Ent.at 7 rfl (Up.cellIs _ _ _) (blk_cell rfl))) rfl ?_ | refine OL.q (Y.load T3 rfl (Ent.at 8 rfl (Up.cellIs _ _ _) (blk_cell rfl))) rfl ?_ | refine OL.q (Y.load T3 rfl (cellsIs_at0 (rd_at (Ent.at 0 rfl (Up.rd _ _ _ _) row_rd) (mget _ (by assumption))) rfl)) rfl ?_ | refine OL.q (Y.load T3 rfl (cellsIs_at (rd_at (Ent.at 0 rfl (Up.rd _ _ _ _) row_rd) (mget _ (by assumption))) rfl)) rfl ?_ | refine OL.q (Y.load T3 rfl (cellsIs_at0 (rd_at (Ent.at 1 rfl (Up.rd _ _ _ _) row_rd) (mget _ (by assumption))) rfl)) rfl ?_ | refine OL.q (Y.load T3 rfl (cellsIs_at (rd_at (Ent.at 1 rfl (Up.rd _ _ _ _) row_rd) (mget _ (by assumption))) rfl)) rfl ?_ | refine OL.q (Y.load T3 rfl (cellsIs_at0 (rd_at (Ent.at 2 rfl (Up.rd _ _ _ _) row_rd) (mget _ (by assumption))) rfl)) rfl ?_ | refine OL.q (Y.load T3 rfl (cellsIs_at (rd_at (Ent.at 2 rfl (Up.rd _ _ _ _) row_rd) (mget _ (by assumption))) rfl)) rfl ?_ | refine OL.q (Y.load T3 rfl (cellsIs_at0 (rd_at (Ent.at 3 rfl (Up.rd _ _ _ _) row_rd) (mget _ (by assumption))) rfl)) rfl ?_ | refine OL.q (Y.load T3 rfl (cellsIs_at (rd_at (Ent.at 3 rfl (Up.rd _ _ _ _) row_rd) (mget _ (by assumption))) rfl)) rfl ?_ | refine OL.q (Y.load T3 rfl (cellsIs_at0 (rd_at (Ent.at 4 rfl (Up.rd _ _ _ _) row_rd) (mget _ (by assumption))) rfl)) rfl ?_ | refine OL.q (Y.load T3 rfl (cellsIs_at (rd_at (Ent.at 4 rfl (Up.rd _ _ _ _) row_rd) (mget _ (by assumption))) rfl)) rfl ?_ | refine OL.q (Y.load T3 rfl (cellsIs_at0 (rd_at (Ent.at 5 rfl (Up.rd _ _ _ _) row_rd) (mget _ (by assumption))) rfl)) rfl ?_ | refine OL.q (Y.load T3 rfl (cellsIs_at (rd_at (Ent.at 5 rfl (Up.rd _ _ _ _) row_rd) (mget _ (by assumption))) rfl)) rfl ?_ | refine OL.q (Y.load T3 rfl (cellsIs_at0 (rd_at (Ent.at 6 rfl (Up.rd _ _ _ _) row_rd) (mget _ (by assumption))) rfl)) rfl ?_ | refine OL.q (Y.load T3 rfl (cellsIs_at (rd_at (Ent.at 6 rfl (Up.rd _ _ _ _) row_rd) (mget _ (by assumption))) rfl)) rfl ?_ | refine OL.q (Y.load T3 rfl (cellsIs_at0 (rd_at (Ent.at 7 rfl (Up.rd _ _ _ _) row_rd) (mget _ (by assumption))) rfl)) rfl ?_ | refine OL.q (Y.load T3 rfl (cellsIs_at (rd_at (Ent.at 7 rfl (Up.rd _ _ _ _) row_rd) (mget _ (by assumption))) rfl)) rfl ?_ | refine OL.q (Y.load T3 rfl (cellsIs_at0 (rd_at (Ent.at 8 rfl (Up.rd _ _ _ _) row_rd) (mget _ (by assumption))) rfl)) rfl ?_ | refine OL.q (Y.load T3 rfl (cellsIs_at (rd_at (Ent.at 8 rfl (Up.rd _ _ _ _) row_rd) (mget _ (by assumption))) rfl)) rfl ?_ | refine OL.q (Y.load T3 rfl (cellsIs_at0 (rd_at (Ent.frame (Up.rd _ _ _ _) (fun h hs => imm_ent (Up.rd _ _ _ _) (by assumption) h (hF h hs))) (mget _ (by assumption))) rfl)) rfl ?_ | refine OL.q (Y.load T3 rfl (cellsIs_at (rd_at (Ent.frame (Up.rd _ _ _ _) (fun h hs => imm_ent (Up.rd _ _ _ _) (by assumption) h (hF h hs))) (mget _ (by assumption))) rfl)) rfl ?_
                refine OL.q (Y.eql rfl rfl) rfl ?_
                refine OL.nil ?_
                refine EX.seq ?_
                refine CW.cond rfl (fun h7 => ?_) (fun h7 => ?_)
                · repeat (first | replace h7 := yes h7 | replace h7 := no h7 | replace h7 := nyes h7 | replace h7 := nno h7)
                  exfalso
                  first | omega | contradiction | exact absurd rfl h7 | exact absurd h7 (by simp) | exact absurd h7 (by decide)
                repeat (first | replace h7 := yes h7 | replace h7 := no h7 | replace h7 := nyes h7 | replace h7 := nno h7)
                refine CW.skip ?_
                refine EX.norB ?_
                refine EX.seq ?_
                refine CW.region ?_
                first | refine OL.q (Y.add1 rfl rfl rfl (by omega)) rfl ?_ | refine OL.q (Y.addN rfl rfl (by omega)) rfl ?_ | refine OL.q (Y.add rfl rfl (by omega)) rfl ?_
                refine OL.q (Y.move rfl) rfl ?_
                refine OL.nil ?_
                exact EX.next (k + 1, (A.sort x.name x.args).2.2, kf, ka, kc) [0, 1] (by dsimp only; exact ⟨by omega, hSo2, by rw [hter]; exact hT, by rw [hfun]; exact hkf, hko, by omega, by omega⟩) (by first | omega | (dsimp only; omega)) (by simp only [hfun]; exact ⟨rfl, rfl, rfl, rfl, rfl, trivial⟩) rfl (by show [_, _] = [_, _]; simp only [hfun] <;> rfl)
      · have bh3 := h3
        repeat (first | replace h3 := yes h3 | replace h3 := no h3 | replace h3 := nyes h3 | replace h3 := nno h3)
        refine CW.skip ?_
        refine EX.seq ?_
        refine CW.seq ?_
        refine CW.region ?_
        refine OL.q (Y.field L32_0 rfl) rfl ?_
        first | refine OL.q (Y.load T3 rfl (Ent.at 0 rfl (Up.cellIs _ _ _) (blk_cell rfl))) rfl ?_ | refine OL.q (Y.load T3 rfl (Ent.at 1 rfl (Up.cellIs _ _ _) (blk_cell rfl))) rfl ?_ | refine OL.q (Y.load T3 rfl (Ent.at 2 rfl (Up.cellIs _ _ _) (blk_cell rfl))) rfl ?_ | refine OL.q (Y.load T3 rfl (Ent.at 3 rfl (Up.cellIs _ _ _) (blk_cell rfl))) rfl ?_ | refine OL.q (Y.load T3 rfl (Ent.at 4 rfl (Up.cellIs _ _ _) (blk_cell rfl))) rfl ?_ | refine OL.q (Y.load T3 rfl (Ent.at 5 rfl (Up.cellIs _ _ _) (blk_cell rfl))) rfl ?_ | refine OL.q (Y.load T3 rfl (Ent.at 6 rfl (Up.cellIs _ _ _) (blk_cell rfl))) rfl ?_ | refine OL.q (Y.load T3 rfl (Ent.at 7 rfl (Up.cellIs _ _ _) (blk_cell rfl))) rfl ?_ | refine OL.q (Y.load T3 rfl (Ent.at 8 rfl (Up.cellIs _ _ _) (blk_cell rfl))) rfl ?_ | refine OL.q (Y.load T3 rfl (cellsIs_at0 (rd_at (Ent.at 0 rfl (Up.rd _ _ _ _) row_rd) (mget _ (by assumption))) rfl)) rfl ?_ | refine OL.q (Y.load T3 rfl (cellsIs_at (rd_at (Ent.at 0 rfl (Up.rd _ _ _ _) row_rd) (mget _ (by assumption))) rfl)) rfl ?_ | refine OL.q (Y.load T3 rfl (cellsIs_at0 (rd_at (Ent.at 1 rfl (Up.rd _ _ _ _) row_rd) (mget _ (by assumption))) rfl)) rfl ?_ | refine OL.q (Y.load T3 rfl (cellsIs_at (rd_at (Ent.at 1 rfl (Up.rd _ _ _ _) row_rd) (mget _ (by assumption))) rfl)) rfl ?_ | refine OL.q (Y.load T3 rfl (cellsIs_at0 (rd_at (Ent.at 2 rfl (Up.rd _ _ _ _) row_rd) (mget _ (by assumption))) rfl)) rfl ?_ | refine OL.q (Y.load T3 rfl (cellsIs_at (rd_at (Ent.at 2 rfl (Up.rd _ _ _ _) row_rd) (mget _ (by assumption))) rfl)) rfl ?_ | refine OL.q (Y.load T3 rfl (cellsIs_at0 (rd_at (Ent.at 3 rfl (Up.rd _ _ _ _) row_rd) (mget _ (by assumption))) rfl)) rfl ?_ | refine OL.q (Y.load T3 rfl (cellsIs_at (rd_at (Ent.at 3 rfl (Up.rd _ _ _ _) row_rd) (mget _ (by assumption))) rfl)) rfl ?_ | refine OL.q (Y.load T3 rfl (cellsIs_at0 (rd_at (Ent.at 4 rfl (Up.rd _ _ _ _) row_rd) (mget _ (by assumption))) rfl)) rfl ?_ | refine OL.q (Y.load T3 rfl (cellsIs_at (rd_at (Ent.at 4 rfl (Up.rd _ _ _ _) row_rd) (mget _ (by assumption))) rfl)) rfl ?_ | refine OL.q (Y.load T3 rfl (cellsIs_at0 (rd_at (Ent.at 5 rfl (Up.rd _ _ _ _) row_rd) (mget _ (by assumption))) rfl)) rfl ?_ | refine OL.q (Y.load T3 rfl (cellsIs_at (rd_at (Ent.at 5 rfl (Up.rd _ _ _ _) row_rd) (mget _ (by assumption))) rfl)) rfl ?_ | refine OL.q (Y.load T3 rfl (cellsIs_at0 (rd_at (Ent.at 6 rfl (Up.rd _ _ _ _) row_rd) (mget _ (by assumption))) rfl)) rfl ?_ | refine OL.q (Y.load T3 rfl (cellsIs_at (rd_at (Ent.at 6 rfl (Up.rd _ _ _ _) row_rd) (mget _ (by assumption))) rfl)) rfl ?_ | refine OL.q (Y.load T3 rfl (cellsIs_at0 (rd_at (Ent.at 7 rfl (Up.rd _ _ _ _) row_rd) (mget _ (by assumption))) rfl)) rfl ?_ | refine OL.q (Y.load T3 rfl (cellsIs_at (rd_at (Ent.at 7 rfl (Up.rd _ _ _ _) row_rd) (mget _ (by assumption))) rfl)) rfl ?_ | refine OL.q (Y.load T3 rfl (cellsIs_at0 (rd_at (Ent.at 8 rfl (Up.rd _ _ _ _) row_rd) (mget _ (by assumption))) rfl)) rfl ?_ | refine OL.q (Y.load T3 rfl (cellsIs_at (rd_at (Ent.at 8 rfl (Up.rd _ _ _ _) row_rd) (mget _ (by assumption))) rfl)) rfl ?_ | refine OL.q (Y.load T3 rfl (cellsIs_at0 (rd_at (Ent.frame (Up.rd _ _ _ _) (fun h hs => imm_ent (Up.rd _ _ _ _) (by assumption) h (hF h hs))) (mget _ (by assumption))) rfl)) rfl ?_ | refine OL.q (Y.load T3 rfl (cellsIs_at (rd_at (Ent.frame (Up.rd _ _ _ _) (fun h hs => imm_ent (Up.rd _ _ _ _) (by assumption) h (hF h hs))) (mget _ (by assumption))) rfl)) rfl ?_
        refine OL.q (Y.eql rfl rfl) rfl ?_
        refine OL.nil ?_
        refine EX.seq ?_
        refine CW.cond rfl (fun h7 => ?_) (fun h7 => ?_)
        · have bh7 := h7
          repeat (first | replace h7 := yes h7 | replace h7 := no h7 | replace h7 := nyes h7 | replace h7 := nno h7)
          refine CW.seq ?_
          refine CW.region ?_
          refine OL.q (Y.field L32_1 rfl) rfl ?_
          first | refine OL.q (Y.load T9 rfl (Ent.at 0 rfl (Up.cellIs _ _ _) (blk_cell rfl))) rfl ?_ | refine OL.q (Y.load T9 rfl (Ent.at 1 rfl (Up.cellIs _ _ _) (blk_cell rfl))) rfl ?_ | refine OL.q (Y.load T9 rfl (Ent.at 2 rfl (Up.cellIs _ _ _) (blk_cell rfl))) rfl ?_ | refine OL.q (Y.load T9 rfl (Ent.at 3 rfl (Up.cellIs _ _ _) (blk_cell rfl))) rfl ?_ | refine OL.q (Y.load T9 rfl (Ent.at 4 rfl (Up.cellIs _ _ _) (blk_cell rfl))) rfl ?_ | refine OL.q (Y.load T9 rfl (Ent.at 5 rfl (Up.cellIs _ _ _) (blk_cell rfl))) rfl ?_ | refine OL.q (Y.load T9 rfl (Ent.at 6 rfl (Up.cellIs _ _ _) (blk_cell rfl))) rfl ?_ | refine OL.q (Y.load T9 rfl (Ent.at 7 rfl (Up.cellIs _ _ _) (blk_cell rfl))) rfl ?_ | refine OL.q (Y.load T9 rfl (Ent.at 8 rfl (Up.cellIs _ _ _) (blk_cell rfl))) rfl ?_ | refine OL.q (Y.load T9 rfl (cellsIs_at0 (rd_at (Ent.at 0 rfl (Up.rd _ _ _ _) row_rd) (mget _ (by assumption))) rfl)) rfl ?_ | refine OL.q (Y.load T9 rfl (cellsIs_at (rd_at (Ent.at 0 rfl (Up.rd _ _ _ _) row_rd) (mget _ (by assumption))) rfl)) rfl ?_ | refine OL.q (Y.load T9 rfl (cellsIs_at0 (rd_at (Ent.at 1 rfl (Up.rd _ _ _ _) row_rd) (mget _ (by assumption))) rfl)) rfl ?_ | refine OL.q (Y.load T9 rfl (cellsIs_at (rd_at (Ent.at 1 rfl (Up.rd _ _ _ _) row_rd) (mget _ (by assumption))) rfl)) rfl ?_ | refine OL.q (Y.load T9 rfl (cellsIs_at0 (rd_at (Ent.at 2 rfl (Up.rd _ _ _ _) row_rd) (mget _ (by assumption))) rfl)) rfl ?_ | refine OL.q (Y.load T9 rfl (cellsIs_at (rd_at (Ent.at 2 rfl (Up.rd _ _ _ _) row_rd) (mget _ (by assumption))) rfl)) rfl ?_ | refine OL.q (Y.load T9 rfl (cellsIs_at0 (rd_at (Ent.at 3 rfl (Up.rd _ _ _ _) row_rd) (mget _ (by assumption))) rfl)) rfl ?_ | refine OL.q (Y.load T9 rfl (cellsIs_at (rd_at (Ent.at 3 rfl (Up.rd _ _ _ _) row_rd) (mget _ (by assumption))) rfl)) rfl ?_ | refine OL.q (Y.load T9 rfl (cellsIs_at0 (rd_at (Ent.at 4 rfl (Up.rd _ _ _ _) row_rd) (mget _ (by assumption))) rfl)) rfl ?_ | refine OL.q (Y.load T9 rfl (cellsIs_at (rd_at (Ent.at 4 rfl (Up.rd _ _ _ _) row_rd) (mget _ (by assumption))) rfl)) rfl ?_ | refine OL.q (Y.load T9 rfl (cellsIs_at0 (rd_at (Ent.at 5 rfl (Up.rd _ _ _ _) row_rd) (mget _ (by assumption))) rfl)) rfl ?_ | refine OL.q (Y.load T9 rfl (cellsIs_at (rd_at (Ent.at 5 rfl (Up.rd _ _ _ _) row_rd) (mget _ (by assumption))) rfl)) rfl ?_ | refine OL.q (Y.load T9 rfl (cellsIs_at0 (rd_at (Ent.at 6 rfl (Up.rd _ _ _ _) row_rd) (mget _ (by assumption))) rfl)) rfl ?_ | refine OL.q (Y.load T9 rfl (cellsIs_at (rd_at (Ent.at 6 rfl (Up.rd _ _ _ _) row_rd) (mget _ (by assumption))) rfl)) rfl ?_ | refine OL.q (Y.load T9 rfl (cellsIs_at0 (rd_at (Ent.at 7 rfl (Up.rd _ _ _ _) row_rd) (mget _ (by assumption))) rfl)) rfl ?_ | refine OL.q (Y.load T9 rfl (cellsIs_at (rd_at (Ent.at 7 rfl (Up.rd _ _ _ _) row_rd) (mget _ (by assumption))) rfl)) rfl ?_ | refine OL.q (Y.load T9 rfl (cellsIs_at0 (rd_at (Ent.at 8 rfl (Up.rd _ _ _ _) row_rd) (mget _ (by assumption))) rfl)) rfl ?_ | refine OL.q (Y.load T9 rfl (cellsIs_at (rd_at (Ent.at 8 rfl (Up.rd _ _ _ _) row_rd) (mget _ (by assumption))) rfl)) rfl ?_ | refine OL.q (Y.load T9 rfl (cellsIs_at0 (rd_at (Ent.frame (Up.rd _ _ _ _) (fun h hs => imm_ent (Up.rd _ _ _ _) (by assumption) h (hF h hs))) (mget _ (by assumption))) rfl)) rfl ?_ | refine OL.q (Y.load T9 rfl (cellsIs_at (rd_at (Ent.frame (Up.rd _ _ _ _) (fun h hs => imm_ent (Up.rd _ _ _ _) (by assumption) h (hF h hs))) (mget _ (by assumption))) rfl)) rfl ?_
          refine OL.q (Y.field L32_2 rfl) rfl ?_
          first | refine OL.q (Y.load T28 rfl (Ent.at 0 rfl (Up.cellIs _ _ _) (blk_cell rfl))) rfl ?_ | refine OL.q (Y.load T28 rfl (Ent.at 1 rfl (Up.cellIs _ _ _) (blk_cell rfl))) rfl ?_ | refine OL.q (Y.load T28 rfl (Ent.at 2 rfl (Up.cellIs _ _ _) (blk_cell rfl))) rfl ?_ | refine OL.q (Y.load T28 rfl (Ent.at 3 rfl (Up.cellIs _ _ _) (blk_cell rfl))) rfl ?_ | refine OL.q (Y.load T28 rfl (Ent.at 4 rfl (Up.cellIs _ _ _) (blk_cell rfl))) rfl ?_ | refine OL.q (Y.load T28 rfl (Ent.at 5 rfl (Up.cellIs _ _ _) (blk_cell rfl))) rfl ?_ | refine OL.q (Y.load T28 rfl (Ent.at 6 rfl (Up.cellIs _ _ _) (blk_cell rfl))) rfl ?_ | refine OL.q (Y.load T28 rfl (Ent.at 7 rfl (Up.cellIs _ _ _) (blk_cell rfl))) rfl ?_ | refine OL.q (Y.load T28 rfl (Ent.at 8 rfl (Up.cellIs _ _ _) (blk_cell rfl))) rfl ?_ | refine OL.q (Y.load T28 rfl (cellsIs_at0 (rd_at (Ent.at 0 rfl (Up.rd _ _ _ _) row_rd) (mget _ (by assumption))) rfl)) rfl ?_ | refine OL.q (Y.load T28 rfl (cellsIs_at (rd_at (Ent.at 0 rfl (Up.rd _ _ _ _) row_rd) (mget _ (by assumption))) rfl)) rfl ?_ | refine OL.q (Y.load T28 rfl (cellsIs_at0 (rd_at (Ent.at 1 rfl (Up.rd _ _ _ _) row_rd) (mget _ (by assumption))) rfl)) rfl ?_ | refine OL.q (Y.load T28 rfl (cellsIs_at (rd_at (Ent.at 1 rfl (Up.rd _ _ _ _) row_rd) (mget _ (by assumption))) rfl)) rfl ?_ | refine OL.q (Y.load T28 rfl (cellsIs_at0 (rd_at (Ent.at 2 rfl (Up.rd _ _ _ _) row_rd) (mget _ (by assumption))) rfl)) rfl ?_ | refine OL.q (Y.load T28 rfl (cellsIs_at (rd_at (Ent.at 2 rfl (Up.rd _ _ _ _) row_rd) (mget _ (by assumption))) rfl)) rfl ?_ | refine OL.q (Y.load T28 rfl (cellsIs_at0 (rd_at (Ent.at 3 rfl (Up.rd _ _ _ _) row_rd) (mget _ (by assumption))) rfl)) rfl ?_ | refine OL.q (Y.load T28 rfl (cellsIs_at (rd_at (Ent.at 3 rfl (Up.rd _ _ _ _) row_rd) (mget _ (by assumption))) rfl)) rfl ?_ | refine OL.q (Y.load T28 rfl (cellsIs_at0 (rd_at (Ent.at 4 rfl (Up.rd _ _ _ _) row_rd) (mget _ (by assumption))) rfl)) rfl ?_ | refine OL.q (Y.load T28 rfl (cellsIs_at (rd_at (Ent.at 4 rfl (Up.rd _ _ _ _) row_rd) (mget _ (by assumption))) rfl)) rfl ?_ | refine OL.q (Y.load T28 rfl (cellsIs_at0 (rd_at (Ent.at 5 rfl (Up.rd _ _ _ _) row_rd) (mget _ (by assumption))) rfl)) rfl ?_ | refine OL.q (Y.load T28 rfl (cellsIs_at (rd_at (Ent.at 5 rfl (Up.rd _ _ _ _) row_rd) (mget _ (by assumption))) rfl)) rfl ?_ | refine OL.q (Y.load T28 rfl (cellsIs_at0 (rd_at (Ent.at 6 rfl (Up.rd _ _ _ _) row_rd) (mget _ (by assumption))) rfl)) rfl ?_ | refine OL.q (Y.load T28 rfl (cellsIs_at (rd_at (Ent.at 6 rfl (Up.rd _ _ _ _) row_rd) (mget _ (by assumption))) rfl)) rfl ?_ | refine OL.q (Y.load T28 rfl (cellsIs_at0 (rd_at (Ent.at 7 rfl (Up.rd _ _ _ _) row_rd) (mget _ (by assumption))) rfl)) rfl ?_ | refine OL.q (Y.load T28 rfl (cellsIs_at (rd_at (Ent.at 7 rfl (Up.rd _ _ _ _) row_rd) (mget _ (by assumption))) rfl)) rfl ?_ | refine OL.q (Y.load T28 rfl (cellsIs_at0 (rd_at (Ent.at 8 rfl (Up.rd _ _ _ _) row_rd) (mget _ (by assumption))) rfl)) rfl ?_ | refine OL.q (Y.load T28 rfl (cellsIs_at (rd_at (Ent.at 8 rfl (Up.rd _ _ _ _) row_rd) (mget _ (by assumption))) rfl)) rfl ?_ | refine OL.q (Y.load T28 rfl (cellsIs_at0 (rd_at (Ent.frame (Up.rd _ _ _ _) (fun h hs => imm_ent (Up.rd _ _ _ _) (by assumption) h (hF h hs))) (mget _ (by assumption))) rfl)) rfl ?_ | refine OL.q (Y.load T28 rfl (cellsIs_at (rd_at (Ent.frame (Up.rd _ _ _ _) (fun h hs => imm_ent (Up.rd _ _ _ _) (by assumption) h (hF h hs))) (mget _ (by assumption))) rfl)) rfl ?_
          refine OL.q (Y.field L32_3 rfl) rfl ?_
          first | refine OL.q (Y.load T3 rfl (Ent.at 0 rfl (Up.cellIs _ _ _) (blk_cell rfl))) rfl ?_ | refine OL.q (Y.load T3 rfl (Ent.at 1 rfl (Up.cellIs _ _ _) (blk_cell rfl))) rfl ?_ | refine OL.q (Y.load T3 rfl (Ent.at 2 rfl (Up.cellIs _ _ _) (blk_cell rfl))) rfl ?_ | refine OL.q (Y.load T3 rfl (Ent.at 3 rfl (Up.cellIs _ _ _) (blk_cell rfl))) rfl ?_ | refine OL.q (Y.load T3 rfl (Ent.at 4 rfl (Up.cellIs _ _ _) (blk_cell rfl))) rfl ?_ | refine OL.q (Y.load T3 rfl (Ent.at 5 rfl (Up.cellIs _ _ _) (blk_cell rfl))) rfl ?_ | refine OL.q (Y.load T3 rfl (Ent.at 6 rfl (Up.cellIs _ _ _) (blk_cell rfl))) rfl ?_ | refine OL.q (Y.load T3 rfl (Ent.at 7 rfl (Up.cellIs _ _ _) (blk_cell rfl))) rfl ?_ | refine OL.q (Y.load T3 rfl (Ent.at 8 rfl (Up.cellIs _ _ _) (blk_cell rfl))) rfl ?_ | refine OL.q (Y.load T3 rfl (cellsIs_at0 (rd_at (Ent.at 0 rfl (Up.rd _ _ _ _) row_rd) (mget _ (by assumption))) rfl)) rfl ?_ | refine OL.q (Y.load T3 rfl (cellsIs_at (rd_at (Ent.at 0 rfl (Up.rd _ _ _ _) row_rd) (mget _ (by assumption))) rfl)) rfl ?_ | refine OL.q (Y.load T3 rfl (cellsIs_at0 (rd_at (Ent.at 1 rfl (Up.rd _ _ _ _) row_rd) (mget _ (by assumption))) rfl)) rfl ?_ | refine OL.q (Y.load T3 rfl (cellsIs_at (rd_at (Ent.at 1 rfl (Up.rd _ _ _ _) row_rd) (mget _ (by assumption))) rfl)) rfl ?_ | refine OL.q (Y.load T3 rfl (cellsIs_at0 (rd_at (Ent.at 2 rfl (Up.rd _ _ _ _) row_rd) (mget _ (by assumption))) rfl)) rfl ?_ | refine OL.q (Y.load T3 rfl (cellsIs_at (rd_at (Ent.at 2 rfl (Up.rd _ _ _ _) row_rd) (mget _ (by assumption))) rfl)) rfl ?_ | refine OL.q (Y.load T3 rfl (cellsIs_at0 (rd_at (Ent.at 3 rfl (Up.rd _ _ _ _) row_rd) (mget _ (by assumption))) rfl)) rfl ?_ | refine OL.q (Y.load T3 rfl (cellsIs_at (rd_at (Ent.at 3 rfl (Up.rd _ _ _ _) row_rd) (mget _ (by assumption))) rfl)) rfl ?_ | refine OL.q (Y.load T3 rfl (cellsIs_at0 (rd_at (Ent.at 4 rfl (Up.rd _ _ _ _) row_rd) (mget _ (by assumption))) rfl)) rfl ?_ | refine OL.q (Y.load T3 rfl (cellsIs_at (rd_at (Ent.at 4 rfl (Up.rd _ _ _ _) row_rd) (mget _ (by assumption))) rfl)) rfl ?_ | refine OL.q (Y.load T3 rfl (cellsIs_at0 (rd_at (Ent.at 5 rfl (Up.rd _ _ _ _) row_rd) (mget _ (by assumption))) rfl)) rfl ?_ | refine OL.q (Y.load T3 rfl (cellsIs_at (rd_at (Ent.at 5 rfl (Up.rd _ _ _ _) row_rd) (mget _ (by assumption))) rfl)) rfl ?_ | refine OL.q (Y.load T3 rfl (cellsIs_at0 (rd_at (Ent.at 6 rfl (Up.rd _ _ _ _) row_rd) (mget _ (by assumption))) rfl)) rfl ?_ | refine OL.q (Y.load T3 rfl (cellsIs_at (rd_at (Ent.at 6 rfl (Up.rd _ _ _ _) row_rd) (mget _ (by assumption))) rfl)) rfl ?_ | refine OL.q (Y.load T3 rfl (cellsIs_at0 (rd_at (Ent.at 7 rfl (Up.rd _ _ _ _) row_rd) (mget _ (by assumption))) rfl)) rfl ?_ | refine OL.q (Y.load T3 rfl (cellsIs_at (rd_at (Ent.at 7 rfl (Up.rd _ _ _ _) row_rd) (mget _ (by assumption))) rfl)) rfl ?_ | refine OL.q (Y.load T3 rfl (cellsIs_at0 (rd_at (Ent.at 8 rfl (Up.rd _ _ _ _) row_rd) (mget _ (by assumption))) rfl)) rfl ?_ | refine OL.q (Y.load T3 rfl (cellsIs_at (rd_at (Ent.at 8 rfl (Up.rd _ _ _ _) row_rd) (mget _ (by assumption))) rfl)) rfl ?_ | refine OL.q (Y.load T3 rfl (cellsIs_at0 (rd_at (Ent.frame (Up.rd _ _ _ _) (fun h hs => imm_ent (Up.rd _ _ _ _) (by assumption) h (hF h hs))) (mget _ (by assumption))) rfl)) rfl ?_ | refine OL.q (Y.load T3 rfl (cellsIs_at (rd_at (Ent.frame (Up.rd _ _ _ _) (fun h hs => imm_ent (Up.rd _ _ _ _) (by assumption) h (hF h hs))) (mget _ (by assumption))) rfl)) rfl ?_
          refine OL.q (Y.build B38 rfl rfl) rfl ?_
          refine OL.alloc C38 rfl (fun b13 => ⟨rfl, rfl, ?_⟩)
          first | refine OL.storeAll 0 rfl C38 rfl rfl rfl rfl rfl rfl ⟨rfl, rfl, ?_⟩ | refine OL.storeAll 1 rfl C38 rfl rfl rfl rfl rfl rfl ⟨rfl, rfl, ?_⟩ | refine OL.storeAll 2 rfl C38 rfl rfl rfl rfl rfl rfl ⟨rfl, rfl, ?_⟩ | refine OL.storeAll 3 rfl C38 rfl rfl rfl rfl rfl rfl ⟨rfl, rfl, ?_⟩ | refine OL.storeAll 4 rfl C38 rfl rfl rfl rfl rfl rfl ⟨rfl, rfl, ?_⟩ | refine OL.storeAll 5 rfl C38 rfl rfl rfl rfl rfl rfl ⟨rfl, rfl, ?_⟩ | refine OL.storeAll 6 rfl C38 rfl rfl rfl rfl rfl rfl ⟨rfl, rfl, ?_⟩ | refine OL.storeAll 7 rfl C38 rfl rfl rfl rfl rfl rfl ⟨rfl, rfl, ?_⟩ | refine OL.storeAll 8 rfl C38 rfl rfl rfl rfl rfl rfl ⟨rfl, rfl, ?_⟩
          refine OL.nil ?_
          refine EX.seq ?_
          refine CW.seq ?_
          refine CW.region ?_
          refine OL.q (Y.move rfl) rfl ?_
          first | refine OL.q (Y.loadN S38 rfl rfl (Ent.at 0 rfl (Up.cellsIs _ _ _) blk_cells)) rfl ?_ | refine OL.q (Y.loadN S38 rfl rfl (Ent.at 1 rfl (Up.cellsIs _ _ _) blk_cells)) rfl ?_ | refine OL.q (Y.loadN S38 rfl rfl (Ent.at 2 rfl (Up.cellsIs _ _ _) blk_cells)) rfl ?_ | refine OL.q (Y.loadN S38 rfl rfl (Ent.at 3 rfl (Up.cellsIs _ _ _) blk_cells)) rfl ?_ | refine OL.q (Y.loadN S38 rfl rfl (Ent.at 4 rfl (Up.cellsIs _ _ _) blk_cells)) rfl ?_ | refine OL.q (Y.loadN S38 rfl rfl (Ent.at 5 rfl (Up.cellsIs _ _ _) blk_cells)) rfl ?_ | refine OL.q (Y.loadN S38 rfl rfl (Ent.at 6 rfl (Up.cellsIs _ _ _) blk_cells)) rfl ?_ | refine OL.q (Y.loadN S38 rfl rfl (Ent.at 7 rfl (Up.cellsIs _ _ _) blk_cells)) rfl ?_ | refine OL.q (Y.loadN S38 rfl rfl (Ent.at 8 rfl (Up.cellsIs _ _ _) blk_cells)) rfl ?_ | refine OL.q (Y.loadN S38 rfl rfl (rd_at (Ent.at 0 rfl (Up.rd _ _ _ _) row_rd) (mget _ (by assumption)))) rfl ?_ | refine OL.q (Y.loadN S38 rfl rfl (rd_at (Ent.at 1 rfl (Up.rd _ _ _ _) row_rd) (mget _ (by assumption)))) rfl ?_ | refine OL.q (Y.loadN S38 rfl rfl (rd_at (Ent.at 2 rfl (Up.rd _ _ _ _) row_rd) (mget _ (by assumption)))) rfl ?_ | refine OL.q (Y.loadN S38 rfl rfl (rd_at (Ent.at 3 rfl (Up.rd _ _ _ _) row_rd) (mget _ (by assumption)))) rfl ?_ | refine OL.q (Y.loadN S38 rfl rfl (rd_at (Ent.at 4 rfl (Up.rd _ _ _ _) row_rd) (mget _ (by assumption)))) rfl ?_ | refine OL.q (Y.loadN S38 rfl rfl (rd_at (Ent.at 5 rfl (Up.rd _ _ _ _) row_rd) (mget _ (by assumption)))) rfl ?_ | refine OL.q (Y.loadN S38 rfl rfl (rd_at (Ent.at 6 rfl (Up.rd _ _ _ _) row_rd) (mget _ (by assumption)))) rfl ?_ | refine OL.q (Y.loadN S38 rfl rfl (rd_at (Ent.at 7 rfl (Up.rd _ _ _ _) row_rd) (mget _ (by assumption)))) rfl ?_ | refine OL.q (Y.loadN S38 rfl rfl (rd_at (Ent.at 8 rfl (Up.rd _ _ _ _) row_rd) (mget _ (by assumption)))) rfl ?_ | refine OL.q (Y.loadN S38 rfl rfl (rd_at (Ent.frame (Up.rd _ _ _ _) (fun h hs => imm_ent (Up.rd _ _ _ _) (by assumption) h (hF h hs))) (mget _ (by assumption)))) rfl ?_
          refine OL.call [0] (Fun_w t A x.name x.a x.n x.c x.args x.result hxl (by omega) (by omega)) Tryd.call17 rfl rfl rfl rfl (Ent.frame (Up.rd _ _ _ _) (fun h hs => imm_ent (Up.rd _ _ _ _) hxr h (hF h hs))) rfl ?_
          rintro _ _ ⟨rfl, rfl⟩
          refine ⟨rfl, rfl, ?_⟩
          refine OL.q (Y.move rfl) rfl ?_
          refine OL.q (Y.extract rfl rfl) rfl ?_
          refine OL.q (Y.extract rfl rfl) rfl ?_
          refine OL.q (Y.assign rfl) rfl ?_
          refine OL.q (Y.assign rfl) rfl ?_
          refine OL.nil ?_
          refine EX.seq ?_
          refine CW.seq ?_
          have hft := func_told A ⟨x.name, x.args, x.result⟩
          refine CW.region ?_
          refine OL.q (Y.move rfl) rfl ?_
          refine OL.q (Y.eql rfl rfl) rfl ?_
          refine OL.nil ?_
          refine EX.seq ?_
          refine CW.cond rfl (fun h8 => ?_) (fun h8 => ?_)
          · have bh8 := h8
            repeat (first | replace h8 := yes h8 | replace h8 := no h8 | replace h8 := nyes h8 | replace h8 := nno h8)
            have hf2 : (A.func ⟨x.name, x.args, x.result⟩).1 = (A.funs.length : Nat) ∧ (A.func ⟨x.name, x.args, x.result⟩).2.2 = { A with funs := A.funs ++ [⟨x.name, x.args, x.result⟩] } := by
              rcases hft with h | h
              · omega
              · exact h.2
            refine CW.seq ?_
            refine CW.seq ?_
            refine CW.region ?_
            refine OL.q (Y.move rfl) rfl ?_
            refine OL.q (Y.move rfl) rfl ?_
            refine OL.q (Y.lenSl Tryd.underlying55 rfl) rfl ?_
            refine OL.q (Y.neq rfl rfl) rfl ?_
            refine OL.nil ?_
            refine EX.seq ?_
            refine CW.cond rfl (fun h9 => ?_) (fun h9 => ?_)
            · repeat (first | replace h9 := yes h9 | replace h9 := no h9 | replace h9 := nyes h9 | replace h9 := nno h9)
              exfalso
              exact h9 hf2.1
            repeat (first | replace h9 := yes h9 | replace h9 := no h9 | replace h9 := nyes h9 | replace h9 := nno h9)
            refine CW.skip ?_
            refine EX.seq ?_
            refine CW.region ?_
            refine OL.q (Y.move rfl) rfl ?_
            first | refine OL.q (Y.loadN S38 rfl rfl (Ent.at 0 rfl (Up.cellsIs _ _ _) blk_cells)) rfl ?_ | refine OL.q (Y.loadN S38 rfl rfl (Ent.at 1 rfl (Up.cellsIs _ _ _) blk_cells)) rfl ?_ | refine OL.q (Y.loadN S38 rfl rfl (Ent.at 2 rfl (Up.cellsIs _ _ _) blk_cells)) rfl ?_ | refine OL.q (Y.loadN S38 rfl rfl (Ent.at 3 rfl (Up.cellsIs _ _ _) blk_cells)) rfl ?_ | refine OL.q (Y.loadN S38 rfl rfl (Ent.at 4 rfl (Up.cellsIs _ _ _) blk_cells)) rfl ?_ | refine OL.q (Y.loadN S38 rfl rfl (Ent.at 5 rfl (Up.cellsIs _ _ _) blk_cells)) rfl ?_ | refine OL.q (Y.loadN S38 rfl rfl (Ent.at 6 rfl (Up.cellsIs _ _ _) blk_cells)) rfl ?_ | refine OL.q (Y.loadN S38 rfl rfl (Ent.at 7 rfl (Up.cellsIs _ _ _) blk_cells)) rfl ?_ | refine OL.q (Y.loadN S38 rfl rfl (Ent.at 8 rfl (Up.cellsIs _ _ _) blk_cells)) rfl ?_ | refine OL.q (Y.loadN S38 rfl rfl (rd_at (Ent.at 0 rfl (Up.rd _ _ _ _) row_rd) (mget _ (by assumption)))) rfl ?_ | refine OL.q (Y.loadN S38 rfl rfl (rd_at (Ent.at 1 rfl (Up.rd _ _ _ _) row_rd) (mget _ (by assumption)))) rfl ?_ | refine OL.q (Y.loadN S38 rfl rfl (rd_at (Ent.at 2 rfl (Up.rd _ _ _ _) row_rd) (mget _ (by assumption)))) rfl ?_ | refine OL.q (Y.loadN S38 rfl rfl (rd_at (Ent.at 3 rfl (Up.rd _ _ _ _) row_rd) (mget _ (by assumption)))) rfl ?_ | refine OL.q (Y.loadN S38 rfl rfl (rd_at (Ent.at 4 rfl (Up.rd _ _ _ _) row_rd) (mget _ (by assumption)))) rfl ?_ | refine OL.q (Y.loadN S38 rfl rfl (rd_at (Ent.at 5 rfl (Up.rd _ _ _ _) row_rd) (mget _ (by assumption)))) rfl ?_ | refine OL.q (Y.loadN S38 rfl rfl (rd_at (Ent.at 6 rfl (Up.rd _ _ _ _) row_rd) (mget _ (by assumption)))) rfl ?_ | refine OL.q (Y.loadN S38 rfl rfl (rd_at (Ent.at 7 rfl (Up.rd _ _ _ _) row_rd) (mget _ (by assumption)))) rfl ?_ | refine OL.q (Y.loadN S38 rfl rfl (rd_at (Ent.at 8 rfl (Up.rd _ _ _ _) row_rd) (mget _ (by assumption)))) rfl ?_ | refine OL.q (Y.loadN S38 rfl rfl (rd_at (Ent.frame (Up.rd _ _ _ _) (fun h hs => imm_ent (Up.rd _ _ _ _) (by assumption) h (hF h hs))) (mget _ (by assumption)))) rfl ?_
            refine OL.buildSlice ([funCells ⟨x.name, x.a, x.n, x.c, x.args, x.result⟩]) Tryd.underlying55 C38 (by decide) rfl (by decide) rfl rfl rfl (fun b133 => ⟨rfl, rfl, ?_⟩)
            refine OL.append [funCells ⟨x.name, x.a, x.n, x.c, x.args, x.result⟩] 1 rfl Tryd.underlying55 E38 rfl rfl (Ent.at 4 rfl (Up.rd _ _ _ _) row_rd) rfl (by omega) (by omega) rfl (fun a134 c134 => ⟨rfl, rfl, ?_⟩)
            refine OL.q (Y.assign rfl) rfl ?_
            refine OL.nil ?_
            refine EX.norB ?_
            refine EX.seq ?_
            refine CW.region ?_
            first | refine OL.q (Y.add1 rfl rfl rfl (by omega)) rfl ?_ | refine OL.q (Y.addN rfl rfl (by omega)) rfl ?_ | refine OL.q (Y.add rfl rfl (by omega)) rfl ?_
            refine OL.q (Y.move rfl) rfl ?_
            refine OL.nil ?_
            exact EX.next (k + 1, (A.func ⟨x.name, x.args, x.result⟩).2.2, kf ++ [⟨x.name, x.a, x.n, x.c, x.args, x.result⟩], a134, c134) [0, 1] (by dsimp only; rw [hf2.2]; exact ⟨by omega, hSo, hT, by rw [List.map_append, hkf]; rfl, fun f hf => (List.mem_append.1 hf).elim (hko f) (fun e => by rw [List.mem_singleton.1 e]; exact ⟨⟨hxr, hxc, hxl⟩, show x.n ≤ 1000000 by omega⟩), by show A.sorts.length ≤ 2 + (k + 1); omega, by simp; omega⟩) (by first | omega | (dsimp only; omega)) (by simp only [hf2.2, List.length_append, List.length_singleton]; exact ⟨rfl, rfl, rfl, rfl, rfl, trivial⟩) rfl (by show [_, _] = [_, _]; simp only [hf2.2, List.length_append, List.length_singleton, List.map_append] <;> rfl)
          · have bh8 := h8
            repeat (first | replace h8 := yes h8 | replace h8 := no h8 | replace h8 := nyes h8 | replace h8 := nno h8)
            have hf2 : (A.func ⟨x.name, x.args, x.result⟩).2.2 = A := by
              rcases hft with h | h
              · exact h.2
              · exact absurd h.1 h8
            refine CW.skip ?_
            refine EX.norB ?_
            refine EX.seq ?_
            refine CW.region ?_
            first | refine OL.q (Y.add1 rfl rfl rfl (by omega)) rfl ?_ | refine OL.q (Y.addN rfl rfl (by omega)) rfl ?_ | refine OL.q (Y.add rfl rfl (by omega)) rfl ?_
            refine OL.q (Y.move rfl) rfl ?_
            refine OL.nil ?_
            exact EX.next (k + 1, (A.func ⟨x.name, x.args, x.result⟩).2.2, kf, ka, kc) [0, 1] (by dsimp only; rw [hf2]; exact ⟨by omega, hSo, hT, hkf, hko, by omega, by omega⟩) (by first | omega | (dsimp only; omega)) (by simp only [hf2]; exact ⟨rfl, rfl, rfl, rfl, rfl, trivial⟩) rfl (by show [_, _] = [_, _]; simp only [hf2] <;> rfl)
        · have bh7 := h7
          repeat (first | replace h7 := yes h7 | replace h7 := no h7 | replace h7 := nyes h7 | replace h7 := nno h7)
          refine CW.skip ?_
          refine EX.norB ?_
          refine EX.seq ?_
          refine CW.region ?_
          first | refine OL.q (Y.add1 rfl rfl rfl (by omega)) rfl ?_ | refine OL.q (Y.addN rfl rfl (by omega)) rfl ?_ | refine OL.q (Y.add rfl rfl (by omega)) rfl ?_
          refine OL.q (Y.move rfl) rfl ?_
          refine OL.nil ?_
          exact EX.next (k + 1, A, kf, ka, kc) [0, 1] (by dsimp only; exact ⟨by omega, hSo, hT, hkf, hko, by omega, by omega⟩) (by first | omega | (dsimp only; omega)) ⟨rfl, rfl, rfl, rfl, rfl, trivial⟩ rfl rfl
    · have bh2 := h2
      repeat (first | replace h2 := yes h2 | replace h2 := no h2 | replace h2 := nyes h2 | replace h2 := nno h2)
      have hkn : n = k := by omega
      subst hkn
      refine CW.exit ?_
      refine EX.exitT ?_
      refine EX.exitT ?_
      refine EX.exitB ?_
      refine EX.seq ?_
      refine CW.seq ?_
      refine CW.region ?_
      refine OL.q (Y.move rfl) rfl ?_
      refine OL.call [] (Sorts_w t A) Tryd.call27 rfl rfl rfl rfl (Ent.at 0 rfl (Up.arena _ _) (fun _ h => h)) rfl ?_
      rintro _ _ ⟨sa2, sc2, ss, M2, rfl, hsq, hso, rfl⟩
      refine ⟨rfl, rfl, ?_⟩
      refine OL.q (Y.assign rfl) rfl ?_
      refine OL.nil ?_
      refine EX.seq ?_
      refine CW.seq ?_
      refine CW.seq ?_
      have hsl : ss.length = A.sorts.length := by rw [← hsq]; simp
      refine CW.region ?_
      refine OL.q (Y.move rfl) rfl ?_
      refine OL.q (Y.lenSl Tryd.underlying53 rfl) rfl ?_
      refine OL.q (Y.move rfl) rfl ?_
      refine OL.nil ?_
      refine EX.seq ?_
      refine CW.block ?_
      refine CW.loop (α := Nat) ⟨(fun k => k ≤ A.sorts.length), (fun k => [(3, Value.pointer (some { block := t, off := 0 })), (4, Value.slice ka A.funs.length kc), (16, Value.slice sa2 A.sorts.length sc2), (139, Value.int IntKind.i64 ↑A.sorts.length), (140, .int .i64 k)]), (fun k => [arena t A, row ka A.funs.length kc 38 3 (List.map funCells kf), row sa2 A.sorts.length sc2 57 2 (List.map sortCells ss), imm M2])⟩
        (fun k => (A.sorts.length - k : Nat)) 0 [0, 1, 2, 3] (Nat.zero_le _) ⟨rfl, rfl, rfl, rfl, rfl, trivial⟩ rfl rfl ?_
      rintro k hk2
      dsimp only at hk2 ⊢
      refine CW.seq ?_
      refine CW.region ?_
      refine OL.q (Y.lss rfl rfl) rfl ?_
      refine OL.nil ?_
      refine EX.seq ?_
      refine CW.seq ?_
      refine CW.cond rfl (fun h10 => ?_) (fun h10 => ?_)
      · have bh10 := h10
        repeat (first | replace h10 := yes h10 | replace h10 := no h10 | replace h10 := nyes h10 | replace h10 := nno h10)
        refine CW.skip ?_
        refine EX.seq ?_
        refine CW.seq ?_
        refine CW.block ?_
        refine CW.seq ?_
        refine CW.region ?_
        refine OL.q (Y.move rfl) rfl ?_
        refine OL.q (Y.assign rfl) rfl ?_
        refine OL.nil ?_
        refine EX.seq ?_
        refine CW.seq ?_
        refine CW.region ?_
        refine OL.q (Y.assign rfl) rfl ?_
        refine OL.nil ?_
        refine EX.seq ?_
        refine CW.block ?_
        refine CW.loop (α := Nat) ⟨(fun j => j ≤ k), (fun j => [(3, Value.pointer (some { block := t, off := 0 })), (4, Value.slice ka A.funs.length kc), (16, Value.slice sa2 A.sorts.length sc2), (17, Value.int IntKind.i64 ↑k), (18, .int .i64 j), (139, Value.int IntKind.i64 ↑A.sorts.length), (140, Value.int IntKind.i64 ↑k)]), (fun j => [arena t A, row ka A.funs.length kc 38 3 (List.map funCells kf), row sa2 A.sorts.length sc2 57 2 (List.map sortCells ss), imm M2])⟩
          (fun j => (k - j : Nat)) 0 [0, 1, 2, 3] (Nat.zero_le _) ⟨rfl, rfl, rfl, rfl, rfl, rfl, rfl, trivial⟩ rfl rfl ?_
        rintro j hj
        dsimp only at hj ⊢
        refine CW.seq ?_
        refine CW.seq ?_
        refine CW.region ?_
        refine OL.q (Y.move rfl) rfl ?_
        refine OL.q (Y.move rfl) rfl ?_
        refine OL.q (Y.lss rfl rfl) rfl ?_
        refine OL.nil ?_
        refine EX.seq ?_
        refine CW.cond rfl (fun h11 => ?_) (fun h11 => ?_)
        · have bh11 := h11
          repeat (first | replace h11 := yes h11 | replace h11 := no h11 | replace h11 := nyes h11 | replace h11 := nno h11)
          obtain ⟨u, hu⟩ : ∃ p, ss[k]? = some p := ⟨_, List.getElem?_eq_getElem (by omega)⟩
          obtain ⟨w, hw⟩ : ∃ p, ss[j]? = some p := ⟨_, List.getElem?_eq_getElem (by omega)⟩
          obtain ⟨⟨hur, huc, hul⟩, huz⟩ := hso u (mem_of hu)
          obtain ⟨⟨hwr, hwc, hwl⟩, hwz⟩ := hso w (mem_of hw)
          have hne := hSo.1 j k w.q u.q (by omega) (by rw [← hsq]; exact mget SortC.q hw) (by rw [← hsq]; exact mget SortC.q hu)
          refine CW.skip ?_
          refine EX.seq ?_
          refine CW.seq ?_
          refine CW.block ?_
          refine CW.seq ?_
          refine CW.drawn [(true, 0), (true, 1), (true, 2), (true, 3), (true, 4), (true, 5), (true, 6), (true, 7), (true, 8), (true, 9), (true, 10), (true, 11), (true, 12), (true, 13), (true, 14), (true, 15), (true, 16), (true, 17), (true, 18), (true, 19), (true, 20), (true, 21), (false, 22), (true, 23)] [] [2] mixed (by kernel_rfl) (by repeat (first | exact PanicOk.body | refine PanicOk.then ?_ | refine PanicOk.block ?_)) (by kernel_rfl) rfl rfl rfl rfl ?_
          refine OL.qt (Y.move rfl) rfl ?_
          refine OL.qt (Y.move rfl) rfl ?_
          refine OL.qt (Y.index (k := k) Tryd.underlying53 C57 rfl rfl (Ent.at 0 rfl (Up.rd _ _ _ _) row_rd) rfl (by omega)) rfl ?_
          refine OL.qt (Y.field L57_0 rfl) rfl ?_
          refine OL.qt (Y.load T9 rfl (cellsIs_at0 (rd_at (Ent.at 0 rfl (Up.rd _ _ _ _) row_rd) (mget sortCells hu)) rfl)) rfl ?_
          refine OL.qt (Y.move rfl) rfl ?_
          refine OL.qt (Y.move rfl) rfl ?_
          refine OL.qt (Y.index (k := j) Tryd.underlying53 C57 rfl rfl (Ent.at 0 rfl (Up.rd _ _ _ _) row_rd) rfl (by omega)) rfl ?_
          refine OL.qt (Y.field L57_0 rfl) rfl ?_
          refine OL.qt (Y.load T9 rfl (cellsIs_at0 (rd_at (Ent.at 0 rfl (Up.rd _ _ _ _) row_rd) (mget sortCells hw)) rfl)) rfl ?_
          refine OL.qt (Y.eqlS rfl rfl) rfl ?_
          refine OL.qt (Y.move rfl) rfl ?_
          refine OL.guard (s := 159) rfl (fun g36_11 => ?_) (fun g36_11 => ?_)
          · have ng36_11 := g36_11
            repeat (first | replace ng36_11 := yes ng36_11 | replace ng36_11 := no ng36_11 | replace ng36_11 := nyes ng36_11 | replace ng36_11 := nno ng36_11)
            refine OL.ont g36_11 rfl rfl ?_
            refine OL.qt (Y.move rfl) rfl ?_
            refine OL.ont g36_11 rfl rfl ?_
            refine OL.qt (Y.move rfl) rfl ?_
            refine OL.ont g36_11 rfl rfl ?_
            refine OL.qt (Y.index (k := k) Tryd.underlying53 C57 rfl rfl (Ent.at 0 rfl (Up.rd _ _ _ _) row_rd) rfl (by omega)) rfl ?_
            refine OL.ont g36_11 rfl rfl ?_
            refine OL.qt (Y.field L57_1 rfl) rfl ?_
            refine OL.ont g36_11 rfl rfl ?_
            refine OL.qt (Y.load T28 rfl (cellsIs_at (rd_at (Ent.at 0 rfl (Up.rd _ _ _ _) row_rd) (mget sortCells hu)) rfl)) rfl ?_
            refine OL.ont g36_11 rfl rfl ?_
            refine OL.qt (Y.move rfl) rfl ?_
            refine OL.ont g36_11 rfl rfl ?_
            refine OL.qt (Y.move rfl) rfl ?_
            refine OL.ont g36_11 rfl rfl ?_
            refine OL.qt (Y.index (k := j) Tryd.underlying53 C57 rfl rfl (Ent.at 0 rfl (Up.rd _ _ _ _) row_rd) rfl (by omega)) rfl ?_
            refine OL.ont g36_11 rfl rfl ?_
            refine OL.qt (Y.field L57_1 rfl) rfl ?_
            refine OL.ont g36_11 rfl rfl ?_
            refine OL.qt (Y.load T28 rfl (cellsIs_at (rd_at (Ent.at 0 rfl (Up.rd _ _ _ _) row_rd) (mget sortCells hw)) rfl)) rfl ?_
            refine OL.on g36_11 rfl rfl ?_
            refine OL.call [] (sameInts_any u.a w.a u.n u.c w.n w.c u.args w.args hul hwl (by omega)) Tryd.call26 rfl rfl rfl rfl (Ent.and (Ent.at 3 rfl (Up.rd _ _ _ _) (imm_ent (Up.rd _ _ _ _) hur)) (Ent.at 3 rfl (Up.rd _ _ _ _) (imm_ent (Up.rd _ _ _ _) hwr))) rfl ?_
            rintro _ _ ⟨rfl, rfl⟩
            refine ⟨rfl, rfl, ?_⟩
            refine OL.qt (Y.pickT rfl g36_11 rfl) rfl ?_
            refine OL.nil ?_
            refine EX.tail ?_
            refine OL.nil ?_
            refine EX.seq ?_
            refine CW.cond rfl (fun h12 => ?_) (fun h12 => ?_)
            · repeat (first | replace h12 := yes h12 | replace h12 := no h12 | replace h12 := nyes h12 | replace h12 := nno h12)
              exfalso
              exact hne ⟨ng36_11, h12⟩
            repeat (first | replace h12 := yes h12 | replace h12 := no h12 | replace h12 := nyes h12 | replace h12 := nno h12)
            refine CW.skip ?_
            refine EX.norB ?_
            refine EX.seq ?_
            refine CW.region ?_
            refine OL.q (Y.move rfl) rfl ?_
            first | refine OL.q (Y.add1 rfl rfl rfl (by omega)) rfl ?_ | refine OL.q (Y.addN rfl rfl (by omega)) rfl ?_ | refine OL.q (Y.add rfl rfl (by omega)) rfl ?_
            refine OL.q (Y.assign rfl) rfl ?_
            refine OL.nil ?_
            exact EX.next (j + 1) [0, 1, 2, 3] (by first | omega | (dsimp only; omega)) (by first | omega | (dsimp only; omega)) ⟨rfl, rfl, rfl, rfl, rfl, rfl, rfl, trivial⟩ rfl rfl
          · have ng36_11 := g36_11
            repeat (first | replace ng36_11 := yes ng36_11 | replace ng36_11 := no ng36_11 | replace ng36_11 := nyes ng36_11 | replace ng36_11 := nno ng36_11)
            refine OL.tno g36_11 rfl rfl rfl ?_
            refine OL.tno g36_11 rfl rfl rfl ?_
            refine OL.tno g36_11 rfl rfl rfl ?_
            refine OL.tno g36_11 rfl rfl rfl ?_
            refine OL.tno g36_11 rfl rfl rfl ?_
            refine OL.tno g36_11 rfl rfl rfl ?_
            refine OL.tno g36_11 rfl rfl rfl ?_
            refine OL.tno g36_11 rfl rfl rfl ?_
            refine OL.tno g36_11 rfl rfl rfl ?_
            refine OL.tno g36_11 rfl rfl rfl ?_
            refine OL.no g36_11 rfl rfl rfl ?_
            refine OL.qt (Y.pickF rfl g36_11 rfl) rfl ?_
            refine OL.nil ?_
            refine EX.tail ?_
            refine OL.nil ?_
            refine EX.seq ?_
            refine CW.condF rfl (rfl) ?_
            refine CW.skip ?_
            refine EX.norB ?_
            refine EX.seq ?_
            refine CW.region ?_
            refine OL.q (Y.move rfl) rfl ?_
            first | refine OL.q (Y.add1 rfl rfl rfl (by omega)) rfl ?_ | refine OL.q (Y.addN rfl rfl (by omega)) rfl ?_ | refine OL.q (Y.add rfl rfl (by omega)) rfl ?_
            refine OL.q (Y.assign rfl) rfl ?_
            refine OL.nil ?_
            exact EX.next (j + 1) [0, 1, 2, 3] (by first | omega | (dsimp only; omega)) (by first | omega | (dsimp only; omega)) ⟨rfl, rfl, rfl, rfl, rfl, rfl, rfl, trivial⟩ rfl rfl
        · have bh11 := h11
          repeat (first | replace h11 := yes h11 | replace h11 := no h11 | replace h11 := nyes h11 | replace h11 := nno h11)
          refine CW.exit ?_
          refine EX.exitT ?_
          refine EX.exitT ?_
          refine EX.exitB ?_
          refine EX.norB ?_
          refine EX.seq ?_
          refine CW.region ?_
          first | refine OL.q (Y.add1 rfl rfl rfl (by omega)) rfl ?_ | refine OL.q (Y.addN rfl rfl (by omega)) rfl ?_ | refine OL.q (Y.add rfl rfl (by omega)) rfl ?_
          refine OL.q (Y.move rfl) rfl ?_
          refine OL.nil ?_
          exact EX.next (k + 1) [0, 1, 2, 3] (by first | omega | (dsimp only; omega)) (by first | omega | (dsimp only; omega)) ⟨rfl, rfl, rfl, rfl, rfl, trivial⟩ rfl rfl
      · have bh10 := h10
        repeat (first | replace h10 := yes h10 | replace h10 := no h10 | replace h10 := nyes h10 | replace h10 := nno h10)
        refine CW.exit ?_
        refine EX.exitT ?_
        refine EX.exitT ?_
        refine EX.exitB ?_
        refine EX.seq ?_
        refine CW.seq ?_
        refine CW.region ?_
        refine OL.q (Y.move rfl) rfl ?_
        refine OL.call [] (Funs_w t A) Tryd.call29 rfl rfl rfl rfl (Ent.at 0 rfl (Up.arena _ _) (fun _ h => h)) rfl ?_
        rintro _ _ ⟨fa2, fc2, fs, M3, rfl, hfq, hfo, rfl⟩
        refine ⟨rfl, rfl, ?_⟩
        refine OL.q (Y.move rfl) rfl ?_
        refine OL.call [] (alike_any fa2 ka A.funs.length fc2 A.funs.length kc fs kf M3 M hfo hko (by rw [← hfq]; simp) (by rw [← hkf]; simp) (by omega) (by rw [hfq, hkf])) Tryd.call28 rfl rfl rfl rfl (Ent.and (Ent.and (Ent.at 4 rfl (Up.rd _ _ _ _) row_rd) (Ent.at 1 rfl (Up.rd _ _ _ _) row_rd)) (Ent.and (Ent.at 5 rfl (fun _ _ e h => le.trans h e) (fun _ h => h)) (Ent.frame (fun _ _ e h => le.trans h e) hF))) rfl ?_
        rintro _ _ ⟨rfl, rfl⟩
        refine ⟨rfl, rfl, ?_⟩
        refine OL.q (Y.move rfl) rfl ?_
        refine OL.guard (s := 177) rfl (fun g39_4 => ?_) (fun g39_4 => ?_)
        · have ng39_4 := g39_4
          repeat (first | replace ng39_4 := yes ng39_4 | replace ng39_4 := no ng39_4 | replace ng39_4 := nyes ng39_4 | replace ng39_4 := nno ng39_4)
          refine OL.on g39_4 rfl rfl ?_
          refine OL.q (Y.move rfl) rfl ?_
          refine OL.on g39_4 rfl rfl ?_
          refine OL.call [] (Len_w t A) Tryd.call18 rfl rfl rfl rfl (Ent.at 0 rfl (Up.arena _ _) (fun _ h => h)) rfl ?_
          rw [hT]
          rintro _ _ ⟨rfl, rfl⟩
          refine ⟨rfl, rfl, ?_⟩
          refine OL.on g39_4 rfl rfl ?_
          refine OL.q (Y.eql rfl rfl) rfl ?_
          refine OL.q (Y.pickT rfl g39_4 rfl) rfl ?_
          refine OL.q (Y.assign rfl) rfl ?_
          refine OL.nil ?_
          refine EX.seq ?_
          refine CW.ret ?_
          exact EX.fin1 [] rfl rfl rfl ⟨rfl, rfl⟩
        · have ng39_4 := g39_4
          repeat (first | replace ng39_4 := yes ng39_4 | replace ng39_4 := no ng39_4 | replace ng39_4 := nyes ng39_4 | replace ng39_4 := nno ng39_4)
          exfalso
          first | omega | contradiction | exact absurd rfl ng39_4 | exact absurd ng39_4 (by simp) | exact absurd ng39_4 (by decide)
end Go.Proofs.YtmlnnepgigieaaaDoor
