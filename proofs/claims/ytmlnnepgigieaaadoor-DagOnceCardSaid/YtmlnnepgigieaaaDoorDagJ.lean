/- All sorts, functions, buckets of an arena, and the term at a place, handed out in memory of their own. -/
import Derived.Test.YtmlnnepgigieaaaDoorDagI
import Derived.Test.YtmlnnepgigieaaaDoorMore
namespace Go.Proofs.YtmlnnepgigieaaaDoor
open Go.Sx

theorem L57_1 : Fld Tryd.prog 57 1 1 := ⟨⟨_, Tryd.underlying57, _, rfl, rfl, 1, by decide, Tryd.sizeOf28⟩⟩
theorem B30 : StT Tryd.prog 30 [(0, 1), (1, 1), (2, 1), (3, 1)] [.int .i64 0, .int .i64 0, .slice none 0 0, .string ⟨#[]⟩] := StT.of (it := Tryd.t30) (by kernel_rfl) Tryd.underlying30 rfl rfl (by kernel_rfl)


theorem immNil_sl {l : List HP} {h : PH} (hs : sl l h) : sl (imm (fun _ => none) :: l) h := (sl_emp hs).head_mono fun k _ => no_le k
theorem CW.immNil {cx : Cx} {Q : Exit → Act → World → Prop} {e : Env} {H : List HP} {c : Code} (h : CW cx c Q e (H ++ [imm fun _ => none])) : CW cx c Q e H := fun a w hs => by
  refine h a w (hs.heapMono ?_)
  exact (immNil_sl hs.heap).perm (by simpa using List.perm_middle.symm)
/-- Of a star of chunks: one of them. -/
theorem star_one {L : List HP} {p X : HP} {k : Nat} (hk : nth L k = some p) (hu : Up X) (hp : ∀ h, p h → X h) : ∀ h, star L h → X h := fun _ hs => by
  obtain ⟨h1, _, _, e1, _, q, _⟩ := sl.take hk hs
  exact hu _ _ e1 (hp _ q)



structure SortP where
  name : ByteArray
  args : List Int
structure FunP where
  name : ByteArray
  args : List Int
  result : Int
structure TermP where
  op : Int
  fn : Int
  kids : List Int
  num : ByteArray
def SortC.q (s : SortC) : SortP := ⟨s.name, s.args⟩
def FunC.q (f : FunC) : FunP := ⟨f.name, f.args, f.result⟩
def TermC.q (x : TermC) : TermP := ⟨x.op, x.fn, x.kids, x.num⟩


theorem sorts_low (t : Nat) (S : DagS) (v : DagV) (M : PH) (hS : DagOk M S v) (hz : ∀ s ∈ S.sorts, s.n ≤ 1000000) :
    FS Tryd.prog 27 [.pointer (some ⟨t, 0, none⟩)] (fun h => sl (dagR t S v M) h) [] (fun r H => ∃ a2 c2, ∃ ss : List SortC, ∃ M2, r = .slice a2 v.sn c2 ∧ ss.map SortC.q = S.sorts.map SortC.q ∧ (∀ s ∈ ss, s.Ok M2 ∧ s.n ≤ 1000000) ∧ H = [row a2 v.sn c2 57 2 (ss.map sortCells), imm M2]) := by
  refine FS.intro (N := 25) Tryd.func27 rfl rfl rfl (fun F w0 hF => ?_)
  have hln := hS.sn
  have hsm := hS.small
  refine CW.seq ?_
  refine CW.region ?_
  refine OL.q (Y.assign rfl) rfl ?_
  refine OL.nil ?_
  refine EX.seq ?_
  refine CW.seq ?_
  refine CW.region ?_
  refine OL.q (Y.assign rfl) rfl ?_
  refine OL.nil ?_
  refine EX.seq ?_
  refine CW.seq ?_
  refine CW.seq ?_
  refine CW.region ?_
  refine OL.q (Y.move rfl) rfl ?_
  refine OL.q (Y.nilCheck rfl) rfl ?_
  refine OL.q (Y.field L97_1 rfl) rfl ?_
  refine OL.q (Y.load T53 rfl (Ent.via hF (Up.cellIs _ _ _) (Ent.at 0 rfl (Up.cellIs _ _ _) (blk_cell rfl)))) rfl ?_
  refine OL.q (Y.lenSl Tryd.underlying53 rfl) rfl ?_
  refine OL.q (Y.move rfl) rfl ?_
  refine OL.nil ?_
  refine EX.seq ?_
  refine CW.block ?_
  refine CW.nilRow 57 2 ?_
  refine CW.immNil ?_
  refine CW.loop (α := Nat × Option Addr × Nat × List SortC × PH) ⟨(fun q_ => q_.1 ≤ v.sn ∧ q_.2.2.2.1.length = q_.1 ∧ q_.2.2.2.1.map SortC.q = (S.sorts.take q_.1).map SortC.q ∧ ∀ s ∈ q_.2.2.2.1, s.Ok q_.2.2.2.2 ∧ s.n ≤ 1000000), (fun q_ => [(3, .slice q_.2.1 q_.1 q_.2.2.1), (9, Value.slice v.sa v.sn v.sc), (10, Value.int IntKind.i64 ↑v.sn), (11, .int .i64 q_.1)]), (fun q_ => [row q_.2.1 q_.1 q_.2.2.1 57 2 (q_.2.2.2.1.map sortCells), imm q_.2.2.2.2])⟩
    (fun q_ => (v.sn - q_.1 : Nat)) (0, none, 0, [], fun _ => none) [0, 1] ⟨Nat.zero_le _, rfl, rfl, fun _ h => nomatch h⟩ ⟨rfl, rfl, rfl, rfl, trivial⟩ rfl rfl ?_
  rintro ⟨k, ka, kc, ss, M2⟩ ⟨hk, hsl, hsq, hso⟩
  dsimp only at hk hsl hsq hso ⊢
  refine CW.seq ?_
  refine CW.region ?_
  refine OL.q (Y.lss rfl rfl) rfl ?_
  refine OL.nil ?_
  refine EX.seq ?_
  refine CW.seq ?_
  refine CW.cond rfl (fun h0 => ?_) (fun h0 => ?_)
  · have bh0 := h0
    repeat (first | replace h0 := yes h0 | replace h0 := no h0 | replace h0 := nyes h0 | replace h0 := nno h0)
    obtain ⟨x, hp⟩ : ∃ p, S.sorts[k]? = some p := ⟨_, List.getElem?_eq_getElem (by omega)⟩
    have hxo := hS.sorts x (mem_of hp)
    have hxz := hz x (mem_of hp)
    refine CW.skip ?_
    refine EX.seq ?_
    refine CW.seq ?_
    refine CW.block ?_
    refine CW.seq ?_
    refine CW.region ?_
    refine OL.q (Y.index Tryd.underlying53 C57 rfl rfl (Ent.via hF (Up.rd _ _ _ _) (Ent.at 1 rfl (Up.rd _ _ _ _) row_rd)) rfl (by omega)) rfl ?_
    refine OL.q (Y.loadN S57 rfl rfl (rd_at (Ent.via hF (Up.rd _ _ _ _) (Ent.at 1 rfl (Up.rd _ _ _ _) row_rd)) (mget sortCells hp))) rfl ?_
    refine OL.alloc C57 rfl (fun b5 => ⟨rfl, rfl, ?_⟩)
    refine OL.storeAll 2 rfl C57 rfl rfl rfl rfl rfl rfl ⟨rfl, rfl, ?_⟩
    refine OL.nil ?_
    refine EX.seq ?_
    refine CW.seq ?_
    refine CW.region ?_
    refine OL.q (Y.field L57_1 rfl) rfl ?_
    refine OL.q (Y.load T28 rfl (Ent.at 2 rfl (Up.cellIs _ _ _) (blk_cell rfl))) rfl ?_
    refine OL.call [1] (copied_imm M2 x.a x.n x.c x.args hxo.2.2 (by omega)) Tryd.call55 rfl rfl rfl rfl (Ent.via hF (Up.rd _ _ _ _) (Ent.at 9 rfl (Up.rd _ _ _ _) (imm_ent (Up.rd _ _ _ _) hxo.1))) rfl ?_
    rintro _ _ ⟨a3, c3, M3, hle, hr3, rfl, rfl⟩
    refine ⟨rfl, rfl, ?_⟩
    refine OL.q (Y.field L57_1 rfl) rfl ?_
    refine OL.store 2 rfl C28 rfl rfl rfl rfl rfl ⟨rfl, rfl, ?_⟩
    refine OL.nil ?_
    refine EX.seq ?_
    refine CW.region ?_
    refine OL.q (Y.move rfl) rfl ?_
    refine OL.q (Y.loadN S57 rfl rfl (Ent.at 2 rfl (Up.cellsIs _ _ _) blk_cells)) rfl ?_
    refine OL.buildSlice ([sortCells ⟨x.name, a3, x.n, c3, x.args⟩]) Tryd.underlying53 C57 (by decide) rfl (by decide) rfl rfl rfl (fun b21 => ⟨rfl, rfl, ?_⟩)
    refine OL.append [sortCells ⟨x.name, a3, x.n, c3, x.args⟩] 0 rfl Tryd.underlying53 E57 rfl rfl (Ent.at 3 rfl (Up.rd _ _ _ _) row_rd) rfl (by omega) (by omega) rfl (fun a22 c22 => ⟨rfl, rfl, ?_⟩)
    refine OL.q (Y.assign rfl) rfl ?_
    refine OL.nil ?_
    refine EX.norB ?_
    refine EX.seq ?_
    refine CW.region ?_
    refine OL.q (Y.add1 rfl rfl rfl (by omega)) rfl ?_
    refine OL.q (Y.move rfl) rfl ?_
    refine OL.nil ?_
    exact EX.next (k + 1, a22, c22, ss ++ [⟨x.name, a3, x.n, c3, x.args⟩], M3) [0, 1] (by
      refine ⟨by omega, by simp [hsl], ?_, ?_⟩
      · rw [take_snoc hp, List.map_append, List.map_append, hsq]; rfl
      · intro s hs
        rcases List.mem_append.1 hs with h | h
        · exact ⟨rowIn.up hle (hso s h).1, (hso s h).2⟩
        · rw [List.mem_singleton.1 h]; exact ⟨hr3, hz x (mem_of hp)⟩) (by first | omega | (dsimp only; omega)) ⟨rfl, rfl, rfl, rfl, trivial⟩ rfl (by show [_, _] = [_, _]; rw [List.map_append]; rfl)
  · have bh0 := h0
    repeat (first | replace h0 := yes h0 | replace h0 := no h0 | replace h0 := nyes h0 | replace h0 := nno h0)
    have hkn : k = v.sn := by omega
    subst hkn
    rw [List.take_of_length_le (by omega)] at hsq
    refine CW.exit ?_
    refine EX.exitT ?_
    refine EX.exitT ?_
    refine EX.exitB ?_
    refine EX.seq ?_
    refine CW.seq ?_
    refine CW.region ?_
    refine OL.q (Y.move rfl) rfl ?_
    refine OL.q (Y.assign rfl) rfl ?_
    refine OL.nil ?_
    refine EX.seq ?_
    refine CW.ret ?_
    exact EX.fin1 [0, 1] rfl rfl rfl ⟨_, _, ss, M2, rfl, hsq, hso, rfl⟩

theorem funs_low (t : Nat) (S : DagS) (v : DagV) (M : PH) (hS : DagOk M S v) (hz : ∀ s ∈ S.funs, s.n ≤ 1000000) :
    FS Tryd.prog 29 [.pointer (some ⟨t, 0, none⟩)] (fun h => sl (dagR t S v M) h) [] (fun r H => ∃ a2 c2, ∃ ss : List FunC, ∃ M2, r = .slice a2 v.fn c2 ∧ ss.map FunC.q = S.funs.map FunC.q ∧ (∀ s ∈ ss, s.Ok M2 ∧ s.n ≤ 1000000) ∧ H = [row a2 v.fn c2 38 3 (ss.map funCells), imm M2]) := by
  refine FS.intro (N := 25) Tryd.func29 rfl rfl rfl (fun F w0 hF => ?_)
  have hln := hS.fn
  have hsm := hS.small
  refine CW.seq ?_
  refine CW.region ?_
  refine OL.q (Y.assign rfl) rfl ?_
  refine OL.nil ?_
  refine EX.seq ?_
  refine CW.seq ?_
  refine CW.region ?_
  refine OL.q (Y.assign rfl) rfl ?_
  refine OL.nil ?_
  refine EX.seq ?_
  refine CW.seq ?_
  refine CW.seq ?_
  refine CW.region ?_
  refine OL.q (Y.move rfl) rfl ?_
  refine OL.q (Y.nilCheck rfl) rfl ?_
  refine OL.q (Y.field L97_3 rfl) rfl ?_
  refine OL.q (Y.load T55 rfl (Ent.via hF (Up.cellIs _ _ _) (Ent.at 0 rfl (Up.cellIs _ _ _) (blk_cell rfl)))) rfl ?_
  refine OL.q (Y.lenSl Tryd.underlying55 rfl) rfl ?_
  refine OL.q (Y.move rfl) rfl ?_
  refine OL.nil ?_
  refine EX.seq ?_
  refine CW.block ?_
  refine CW.nilRow 38 3 ?_
  refine CW.immNil ?_
  refine CW.loop (α := Nat × Option Addr × Nat × List FunC × PH) ⟨(fun q_ => q_.1 ≤ v.fn ∧ q_.2.2.2.1.length = q_.1 ∧ q_.2.2.2.1.map FunC.q = (S.funs.take q_.1).map FunC.q ∧ ∀ s ∈ q_.2.2.2.1, s.Ok q_.2.2.2.2 ∧ s.n ≤ 1000000), (fun q_ => [(3, .slice q_.2.1 q_.1 q_.2.2.1), (9, Value.slice v.fa v.fn v.fc), (10, Value.int IntKind.i64 ↑v.fn), (11, .int .i64 q_.1)]), (fun q_ => [row q_.2.1 q_.1 q_.2.2.1 38 3 (q_.2.2.2.1.map funCells), imm q_.2.2.2.2])⟩
    (fun q_ => (v.fn - q_.1 : Nat)) (0, none, 0, [], fun _ => none) [0, 1] ⟨Nat.zero_le _, rfl, rfl, fun _ h => nomatch h⟩ ⟨rfl, rfl, rfl, rfl, trivial⟩ rfl rfl ?_
  rintro ⟨k, ka, kc, ss, M2⟩ ⟨hk, hsl, hsq, hso⟩
  dsimp only at hk hsl hsq hso ⊢
  refine CW.seq ?_
  refine CW.region ?_
  refine OL.q (Y.lss rfl rfl) rfl ?_
  refine OL.nil ?_
  refine EX.seq ?_
  refine CW.seq ?_
  refine CW.cond rfl (fun h0 => ?_) (fun h0 => ?_)
  · have bh0 := h0
    repeat (first | replace h0 := yes h0 | replace h0 := no h0 | replace h0 := nyes h0 | replace h0 := nno h0)
    obtain ⟨x, hp⟩ : ∃ p, S.funs[k]? = some p := ⟨_, List.getElem?_eq_getElem (by omega)⟩
    have hxo := hS.funs x (mem_of hp)
    have hxz := hz x (mem_of hp)
    refine CW.skip ?_
    refine EX.seq ?_
    refine CW.seq ?_
    refine CW.block ?_
    refine CW.seq ?_
    refine CW.region ?_
    refine OL.q (Y.index Tryd.underlying55 C38 rfl rfl (Ent.via hF (Up.rd _ _ _ _) (Ent.at 3 rfl (Up.rd _ _ _ _) row_rd)) rfl (by omega)) rfl ?_
    refine OL.q (Y.loadN S38 rfl rfl (rd_at (Ent.via hF (Up.rd _ _ _ _) (Ent.at 3 rfl (Up.rd _ _ _ _) row_rd)) (mget funCells hp))) rfl ?_
    refine OL.alloc C38 rfl (fun b5 => ⟨rfl, rfl, ?_⟩)
    refine OL.storeAll 2 rfl C38 rfl rfl rfl rfl rfl rfl ⟨rfl, rfl, ?_⟩
    refine OL.nil ?_
    refine EX.seq ?_
    refine CW.seq ?_
    refine CW.region ?_
    refine OL.q (Y.field L38_1 rfl) rfl ?_
    refine OL.q (Y.load T28 rfl (Ent.at 2 rfl (Up.cellIs _ _ _) (blk_cell rfl))) rfl ?_
    refine OL.call [1] (copied_imm M2 x.a x.n x.c x.args hxo.2.2 (by omega)) Tryd.call55 rfl rfl rfl rfl (Ent.via hF (Up.rd _ _ _ _) (Ent.at 9 rfl (Up.rd _ _ _ _) (imm_ent (Up.rd _ _ _ _) hxo.1))) rfl ?_
    rintro _ _ ⟨a3, c3, M3, hle, hr3, rfl, rfl⟩
    refine ⟨rfl, rfl, ?_⟩
    refine OL.q (Y.field L38_1 rfl) rfl ?_
    refine OL.store 2 rfl C28 rfl rfl rfl rfl rfl ⟨rfl, rfl, ?_⟩
    refine OL.nil ?_
    refine EX.seq ?_
    refine CW.region ?_
    refine OL.q (Y.move rfl) rfl ?_
    refine OL.q (Y.loadN S38 rfl rfl (Ent.at 2 rfl (Up.cellsIs _ _ _) blk_cells)) rfl ?_
    refine OL.buildSlice ([funCells ⟨x.name, a3, x.n, c3, x.args, x.result⟩]) Tryd.underlying55 C38 (by decide) rfl (by decide) rfl rfl rfl (fun b21 => ⟨rfl, rfl, ?_⟩)
    refine OL.append [funCells ⟨x.name, a3, x.n, c3, x.args, x.result⟩] 0 rfl Tryd.underlying55 E38 rfl rfl (Ent.at 3 rfl (Up.rd _ _ _ _) row_rd) rfl (by omega) (by omega) rfl (fun a22 c22 => ⟨rfl, rfl, ?_⟩)
    refine OL.q (Y.assign rfl) rfl ?_
    refine OL.nil ?_
    refine EX.norB ?_
    refine EX.seq ?_
    refine CW.region ?_
    refine OL.q (Y.add1 rfl rfl rfl (by omega)) rfl ?_
    refine OL.q (Y.move rfl) rfl ?_
    refine OL.nil ?_
    exact EX.next (k + 1, a22, c22, ss ++ [⟨x.name, a3, x.n, c3, x.args, x.result⟩], M3) [0, 1] (by
      refine ⟨by omega, by simp [hsl], ?_, ?_⟩
      · rw [take_snoc hp, List.map_append, List.map_append, hsq]; rfl
      · intro s hs
        rcases List.mem_append.1 hs with h | h
        · exact ⟨rowIn.up hle (hso s h).1, (hso s h).2⟩
        · rw [List.mem_singleton.1 h]; exact ⟨hr3, hz x (mem_of hp)⟩) (by first | omega | (dsimp only; omega)) ⟨rfl, rfl, rfl, rfl, trivial⟩ rfl (by show [_, _] = [_, _]; rw [List.map_append]; rfl)
  · have bh0 := h0
    repeat (first | replace h0 := yes h0 | replace h0 := no h0 | replace h0 := nyes h0 | replace h0 := nno h0)
    have hkn : k = v.fn := by omega
    subst hkn
    rw [List.take_of_length_le (by omega)] at hsq
    refine CW.exit ?_
    refine EX.exitT ?_
    refine EX.exitT ?_
    refine EX.exitB ?_
    refine EX.seq ?_
    refine CW.seq ?_
    refine CW.region ?_
    refine OL.q (Y.move rfl) rfl ?_
    refine OL.q (Y.assign rfl) rfl ?_
    refine OL.nil ?_
    refine EX.seq ?_
    refine CW.ret ?_
    exact EX.fin1 [0, 1] rfl rfl rfl ⟨_, _, ss, M2, rfl, hsq, hso, rfl⟩

theorem at_bad (t : Nat) (S : DagS) (v : DagV) (M : PH) (k : Int) (hb : bad v.tn k = true) :
    FS Tryd.prog 32 [.pointer (some ⟨t, 0, none⟩), .int .i64 k] (fun h => sl (dagR t S v M) h) [] (fun r H => r = .tuple #[termVal ⟨0, 0, none, 0, 0, [], ⟨#[]⟩⟩, .bool false] ∧ H = []) := by
  refine FS.intro (N := 24) Tryd.func32 rfl rfl rfl (fun F w0 hF => ?_)
  refine CW.seq ?_
  refine CW.region ?_
  refine OL.alloc C30 rfl (fun b4 => ⟨rfl, rfl, ?_⟩)
  refine OL.q (Y.assign rfl) rfl ?_
  refine OL.nil ?_
  refine EX.seq ?_
  refine CW.seq ?_
  refine CW.seq ?_
  refine CW.region ?_
  refine OL.q (Y.move rfl) rfl ?_
  refine OL.q (Y.move rfl) rfl ?_
  refine OL.call [] (has_any t S v M k) Tryd.call68 rfl rfl rfl rfl (Ent.frame (Up.sl _) hF) rfl ?_
  rintro _ _ ⟨rfl, rfl⟩
  refine ⟨rfl, rfl, ?_⟩
  refine OL.q (Y.not rfl) rfl ?_
  refine OL.nil ?_
  refine EX.seq ?_
  refine CW.cond rfl (fun h0 => ?_) (fun h0 => ?_)
  rotate_left
  · repeat (first | replace h0 := yes h0 | replace h0 := no h0 | replace h0 := nyes h0 | replace h0 := nno h0)
    exfalso
    rw [hb] at h0; cases h0
  repeat (first | replace h0 := yes h0 | replace h0 := no h0 | replace h0 := nyes h0 | replace h0 := nno h0)
  refine CW.seq ?_
  refine CW.region ?_
  refine OL.q (Y.build B30 rfl rfl) rfl ?_
  refine OL.storeAll 0 rfl C30 rfl rfl rfl rfl rfl rfl ⟨rfl, rfl, ?_⟩
  refine OL.q (Y.assign rfl) rfl ?_
  refine OL.nil ?_
  refine EX.seq ?_
  refine CW.ret ?_
  refine EX.retT ?_
  exact EX.finCT (vs := [.int .i64 0, .int .i64 0, .slice none 0 0, .string ⟨#[]⟩]) (.inl rfl) [] rfl S30 rfl rfl rfl (Ent.at 0 rfl (Up.cellsIs _ _ _) blk_cells) rfl ⟨rfl, rfl⟩

theorem at_ok (t : Nat) (S : DagS) (v : DagV) (M : PH) (hS : DagOk M S v) (k : Nat) (y : TermC) (hy : S.terms[k]? = some y) (hyn : y.n ≤ 1000000) :
    FS Tryd.prog 32 [.pointer (some ⟨t, 0, none⟩), .int .i64 k] (fun h => sl (dagR t S v M) h) [] (fun r H => ∃ a2 c2, r = .tuple #[termVal { y with a := a2, c := c2 }, .bool true] ∧ H = [row a2 y.n c2 3 1 (y.kids.map intCells)]) := by
  refine FS.intro (N := 24) Tryd.func32 rfl rfl rfl (fun F w0 hF => ?_)
  have hkl : k < v.tn := by rw [← hS.tn]; exact (List.getElem?_eq_some_iff.1 hy).1
  have hb : bad v.tn k = false := bad_false.2 ⟨by omega, by omega⟩
  obtain ⟨hyr, hyc, hyl⟩ := hS.terms y (mem_of hy)
  refine CW.seq ?_
  refine CW.region ?_
  refine OL.alloc C30 rfl (fun b4 => ⟨rfl, rfl, ?_⟩)
  refine OL.q (Y.assign rfl) rfl ?_
  refine OL.nil ?_
  refine EX.seq ?_
  refine CW.seq ?_
  refine CW.seq ?_
  refine CW.region ?_
  refine OL.q (Y.move rfl) rfl ?_
  refine OL.q (Y.move rfl) rfl ?_
  refine OL.call [] (has_any t S v M k) Tryd.call68 rfl rfl rfl rfl (Ent.frame (Up.sl _) hF) rfl ?_
  rintro _ _ ⟨rfl, rfl⟩
  refine ⟨rfl, rfl, ?_⟩
  refine OL.q (Y.not rfl) rfl ?_
  refine OL.nil ?_
  refine EX.seq ?_
  refine CW.cond rfl (fun h0 => ?_) (fun h0 => ?_)
  · repeat (first | replace h0 := yes h0 | replace h0 := no h0 | replace h0 := nyes h0 | replace h0 := nno h0)
    exfalso
    omega
  repeat (first | replace h0 := yes h0 | replace h0 := no h0 | replace h0 := nyes h0 | replace h0 := nno h0)
  refine CW.skip ?_
  refine EX.seq ?_
  refine CW.seq ?_
  refine CW.region ?_
  refine OL.q (Y.move rfl) rfl ?_
  refine OL.q (Y.nilCheck rfl) rfl ?_
  refine OL.q (Y.field L97_4 rfl) rfl ?_
  refine OL.q (Y.load T60 rfl (Ent.via hF (Up.cellIs _ _ _) (Ent.at 0 rfl (Up.cellIs _ _ _) (blk_cell rfl)))) rfl ?_
  refine OL.q (Y.move rfl) rfl ?_
  refine OL.q (Y.index (k := k) Tryd.underlying60 C30 rfl rfl (Ent.via hF (Up.rd _ _ _ _) (Ent.at 4 rfl (Up.rd _ _ _ _) row_rd)) rfl (by omega)) rfl ?_
  refine OL.q (Y.loadN S30 rfl rfl (rd_at (Ent.via hF (Up.rd _ _ _ _) (Ent.at 4 rfl (Up.rd _ _ _ _) row_rd)) (mget termCells hy))) rfl ?_
  refine OL.alloc C30 rfl (fun b6 => ⟨rfl, rfl, ?_⟩)
  refine OL.storeAll 1 rfl C30 rfl rfl rfl rfl rfl rfl ⟨rfl, rfl, ?_⟩
  refine OL.nil ?_
  refine EX.seq ?_
  refine CW.seq ?_
  refine CW.region ?_
  refine OL.q (Y.field L30_2 rfl) rfl ?_
  refine OL.q (Y.load T28 rfl (Ent.at 1 rfl (Up.cellIs _ _ _) (blk_cell rfl))) rfl ?_
  refine OL.call [] (copied_row y.a y.n y.c y.kids (by omega)) Tryd.call55 rfl rfl rfl rfl (Ent.via hF (Up.rd _ _ _ _) (Ent.at 9 rfl (Up.rd _ _ _ _) (imm_ent (Up.rd _ _ _ _) hyr))) rfl ?_
  rintro _ _ ⟨a2, c2, rfl, rfl⟩
  refine ⟨rfl, rfl, ?_⟩
  refine OL.q (Y.field L30_2 rfl) rfl ?_
  refine OL.store 1 rfl C28 rfl rfl rfl rfl rfl ⟨rfl, rfl, ?_⟩
  refine OL.nil ?_
  refine EX.seq ?_
  refine CW.seq ?_
  refine CW.region ?_
  refine OL.q (Y.loadN S30 rfl rfl (Ent.at 1 rfl (Up.cellsIs _ _ _) blk_cells)) rfl ?_
  refine OL.storeAll 0 rfl C30 rfl rfl rfl rfl rfl rfl ⟨rfl, rfl, ?_⟩
  refine OL.q (Y.assign rfl) rfl ?_
  refine OL.nil ?_
  refine EX.seq ?_
  refine CW.ret ?_
  exact EX.finCT (vs := termCells { y with a := a2, c := c2 }) (.inl rfl) [2] rfl S30 rfl rfl rfl (Ent.at 0 rfl (Up.cellsIs _ _ _) blk_cells) rfl ⟨a2, c2, rfl, rfl⟩

theorem buckets_low (t : Nat) (S : DagS) (v : DagV) (M : PH) (hS : DagOk M S v) (hz : ∀ b ∈ S.bucks, b.l.length ≤ 10000000) :
    FS Tryd.prog 22 [.pointer (some ⟨t, 0, none⟩)] (fun h => sl (dagR t S v M) h) [] (fun r H => ∃ a2 c2, ∃ bs : List BuckC, ∃ M2, r = .slice a2 v.bn c2 ∧ bs.map BuckC.l = S.bucks.map BuckC.l ∧ (∀ b ∈ bs, rowIn M2 b.a b.n b.c b.l) ∧ H = [row a2 v.bn c2 28 1 (bs.map buckCells), imm M2]) := by
  refine FS.intro (N := 29) Tryd.func22 rfl rfl rfl (fun F w0 hF => ?_)
  have hbn := hS.bn
  have hsm := hS.small
  refine CW.seq ?_
  refine CW.region ?_
  refine OL.q (Y.assign rfl) rfl ?_
  refine OL.nil ?_
  refine EX.seq ?_
  refine CW.seq ?_
  refine CW.region ?_
  refine OL.q (Y.move rfl) rfl ?_
  refine OL.q (Y.nilCheck rfl) rfl ?_
  refine OL.q (Y.field L97_7 rfl) rfl ?_
  refine OL.q (Y.load T47 rfl (Ent.via hF (Up.cellIs _ _ _) (Ent.at 0 rfl (Up.cellIs _ _ _) (blk_cell rfl)))) rfl ?_
  refine OL.q (Y.lenSl Tryd.underlying47 rfl) rfl ?_
  refine OL.make (l := v.bn) (c := v.bn) Tryd.underlying47 E28 rfl rfl rfl rfl (Nat.le_refl _) (by omega) (by omega) rfl (fun b11 => ⟨rfl, rfl, ?_⟩)
  refine OL.q (Y.assign rfl) rfl ?_
  refine OL.nil ?_
  refine EX.seq ?_
  refine CW.seq ?_
  refine CW.seq ?_
  refine CW.region ?_
  refine OL.q (Y.move rfl) rfl ?_
  refine OL.q (Y.nilCheck rfl) rfl ?_
  refine OL.q (Y.field L97_7 rfl) rfl ?_
  refine OL.q (Y.load T47 rfl (Ent.via hF (Up.cellIs _ _ _) (Ent.at 0 rfl (Up.cellIs _ _ _) (blk_cell rfl)))) rfl ?_
  refine OL.q (Y.lenSl Tryd.underlying47 rfl) rfl ?_
  refine OL.q (Y.move rfl) rfl ?_
  refine OL.nil ?_
  refine EX.seq ?_
  refine CW.block ?_
  generalize hbb : b11 = bb
  refine CW.immNil ?_
  refine CW.loop (α := Nat × List BuckC × PH) ⟨(fun q_ => q_.1 ≤ v.bn ∧ q_.2.1.length = v.bn ∧ ∀ j b z, j < q_.1 → q_.2.1[j]? = some b → S.bucks[j]? = some z → b.l = z.l ∧ rowIn q_.2.2 b.a b.n b.c b.l), (fun q_ => [(3, Value.slice (some { block := bb, off := 0 }) v.bn v.bn), (15, Value.slice v.ba v.bn v.bc), (16, Value.int IntKind.i64 ↑v.bn), (17, .int .i64 q_.1)]), (fun q_ => [row (some ⟨bb, 0, none⟩) v.bn v.bn 28 1 (q_.2.1.map buckCells), imm q_.2.2])⟩
    (fun q_ => (v.bn - q_.1 : Nat)) (0, List.replicate v.bn nilB, fun _ => none) [0, 1] ⟨Nat.zero_le _, by simp, fun j b z h => absurd h (Nat.not_lt_zero _)⟩ ⟨rfl, rfl, rfl, rfl, trivial⟩ rfl (by show [_, _] = [_, _]; simp only [List.map_replicate]; rfl) ?_
  rintro ⟨k, bs, M2⟩ ⟨hk, hsl, hso⟩
  dsimp only at hk hsl hso ⊢
  refine CW.seq ?_
  refine CW.region ?_
  refine OL.q (Y.lss rfl rfl) rfl ?_
  refine OL.nil ?_
  refine EX.seq ?_
  refine CW.seq ?_
  refine CW.cond rfl (fun h0 => ?_) (fun h0 => ?_)
  · have bh0 := h0
    repeat (first | replace h0 := yes h0 | replace h0 := no h0 | replace h0 := nyes h0 | replace h0 := nno h0)
    obtain ⟨x, hp⟩ : ∃ p, S.bucks[k]? = some p := ⟨_, List.getElem?_eq_getElem (by omega)⟩
    obtain ⟨y, hy⟩ : ∃ p, bs[k]? = some p := ⟨_, List.getElem?_eq_getElem (by omega)⟩
    have hxz := hz x (mem_of hp)
    refine CW.learn (p := x.l.length = x.n) (fun h hs => by
      have := (Ent.via hF (Up.rd _ _ _ _) (Ent.at 8 rfl (Up.rd _ _ _ _) (star_one ((nth_eq _ _).trans (mget buckRow hp)) (Up.rd _ _ _ _) row_rd))) h hs
      simpa using this.1) (fun hbl => ?_)
    refine CW.skip ?_
    refine EX.seq ?_
    refine CW.seq ?_
    refine CW.block ?_
    refine CW.seq ?_
    refine CW.region ?_
    refine OL.q (Y.move rfl) rfl ?_
    refine OL.q (Y.index (k := k) Tryd.underlying47 C28 rfl rfl (Ent.via hF (Up.rd _ _ _ _) (Ent.at 7 rfl (Up.rd _ _ _ _) row_rd)) rfl (by omega)) rfl ?_
    refine OL.q (Y.load T28 rfl (cellsIs_at0 (rd_at (Ent.via hF (Up.rd _ _ _ _) (Ent.at 7 rfl (Up.rd _ _ _ _) row_rd)) (mget buckCells hp)) rfl)) rfl ?_
    refine OL.q (Y.assign rfl) rfl ?_
    refine OL.q (Y.assign rfl) rfl ?_
    refine OL.nil ?_
    refine EX.seq ?_
    refine CW.region ?_
    refine OL.q (Y.move rfl) rfl ?_
    refine OL.q (Y.move rfl) rfl ?_
    refine OL.q (Y.move rfl) rfl ?_
    refine OL.call [1] (copied_imm M2 x.a x.n x.c x.l hbl (by omega)) Tryd.call55 rfl rfl rfl rfl (Ent.via hF (Up.rd _ _ _ _) (Ent.at 8 rfl (Up.rd _ _ _ _) (star_one ((nth_eq _ _).trans (mget buckRow hp)) (Up.rd _ _ _ _) row_rd))) rfl ?_
    rintro _ _ ⟨a3, c3, M3, hle, hr3, rfl, rfl⟩
    refine ⟨rfl, rfl, ?_⟩
    refine OL.q (Y.index (k := k) Tryd.underlying47 C28 rfl rfl (Ent.at 0 rfl (Up.rd _ _ _ _) row_rd) rfl (by omega)) rfl ?_
    refine OL.storeRow (k := k) (j := 0) 0 rfl C28 rfl rfl rfl rfl rfl rfl (mget buckCells hy) (by simp [buckCells]) ⟨rfl, rfl, ?_⟩
    refine OL.nil ?_
    refine EX.norB ?_
    refine EX.seq ?_
    refine CW.region ?_
    refine OL.q (Y.add1 rfl rfl rfl (by omega)) rfl ?_
    refine OL.q (Y.move rfl) rfl ?_
    refine OL.nil ?_
    exact EX.next (k + 1, bs.set k ⟨a3, x.n, c3, x.l⟩, M3) [0, 1] (by
      refine ⟨by omega, by simp [hsl], fun j b z hj hb hzz => ?_⟩
      by_cases e : j = k
      · subst e
        rw [List.getElem?_set_self (by omega)] at hb
        cases hb
        rw [hp] at hzz; cases hzz
        exact ⟨rfl, hr3⟩
      · rw [List.getElem?_set_ne (Ne.symm e)] at hb
        have := hso j b z (by omega) hb hzz
        exact ⟨this.1, rowIn.up hle this.2⟩) (by first | omega | (dsimp only; omega)) ⟨rfl, rfl, rfl, rfl, trivial⟩ rfl (by show [_, _] = [_, _]; rw [List.map_set]; rfl)
  · have bh0 := h0
    repeat (first | replace h0 := yes h0 | replace h0 := no h0 | replace h0 := nyes h0 | replace h0 := nno h0)
    have hkn : k = v.bn := by omega
    subst hkn
    have hq : bs.map BuckC.l = S.bucks.map BuckC.l := by
      apply List.ext_getElem?
      intro j
      rw [List.getElem?_map, List.getElem?_map]
      by_cases hj : j < v.bn
      · rw [List.getElem?_eq_getElem (by omega), List.getElem?_eq_getElem (show j < S.bucks.length by omega)]
        simp only [Option.map_some]
        rw [(hso j _ _ hj (List.getElem?_eq_getElem (by omega)) (List.getElem?_eq_getElem (by omega))).1]
      · rw [List.getElem?_eq_none (by omega), List.getElem?_eq_none (by omega)]
    have hr : ∀ b ∈ bs, rowIn M2 b.a b.n b.c b.l := fun b hb => by
      obtain ⟨j, hj, rfl⟩ := List.getElem_of_mem hb
      exact (hso j _ _ (by omega) (List.getElem?_eq_getElem hj) (List.getElem?_eq_getElem (by omega))).2
    refine CW.exit ?_
    refine EX.exitT ?_
    refine EX.exitT ?_
    refine EX.exitB ?_
    refine EX.seq ?_
    refine CW.seq ?_
    refine CW.region ?_
    refine OL.q (Y.move rfl) rfl ?_
    refine OL.q (Y.assign rfl) rfl ?_
    refine OL.nil ?_
    refine EX.seq ?_
    refine CW.ret ?_
    exact EX.fin1 [0, 1] rfl rfl rfl ⟨_, _, bs, M2, rfl, hq, hr, rfl⟩
end Go.Proofs.YtmlnnepgigieaaaDoor
