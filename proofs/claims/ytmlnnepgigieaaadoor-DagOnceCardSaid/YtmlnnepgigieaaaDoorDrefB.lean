/- The document's hash of a term. -/
import Derived.Test.YtmlnnepgigieaaaDoorDref
namespace Go.Proofs.YtmlnnepgigieaaaDoor
open Go.Sx




theorem u8_int (b : UInt8) : IntKind.i64.wrap (b.toNat : Int) = (b.toNat : Int) := by
  have := b.toNat_lt
  simp [IntKind.wrap, IntKind.signed, IntKind.bits]
  omega
def hashL (x : TermC) : List Int := [x.op, x.fn, (x.n : Int)] ++ x.kids


set_option maxRecDepth 10000 in
theorem rhash_any (x : TermC) (hx : x.kids.length = x.n ∧ x.n ≤ 1000000) (hb : x.num.size ≤ 1000000) :
    FS Tryd.prog 25 [termVal x] (rd x.a x.n 1 (x.kids.map intCells)) [] (fun r H => r = .int .u64 (hashT x) ∧ H = []) := by
  refine FS.intro (N := 49) Tryd.func25 rfl rfl rfl (fun F w0 hF => ?_)
  obtain ⟨hs1, hs2⟩ := hx
  have hll : (hashL x).length = 3 + x.n := by unfold hashL; simp; omega
  refine CW.seq ?_
  refine CW.region ?_
  refine OL.box rfl rfl rfl (fun b1 => ⟨rfl, rfl, ?_⟩)
  refine OL.q (Y.assign rfl) rfl ?_
  refine OL.nil ?_
  refine EX.seq ?_
  refine CW.seq ?_
  refine CW.region ?_
  refine OL.q (Y.assign rfl) rfl ?_
  refine OL.nil ?_
  refine EX.seq ?_
  refine CW.seq ?_
  refine CW.region ?_
  refine OL.q (Y.field L30_0 rfl) rfl ?_
  refine OL.q (Y.load T3 rfl (Ent.at 0 rfl (Up.cellIs _ _ _) (blk_cell rfl))) rfl ?_
  refine OL.q (Y.field L30_1 rfl) rfl ?_
  refine OL.q (Y.load T3 rfl (Ent.at 0 rfl (Up.cellIs _ _ _) (blk_cell rfl))) rfl ?_
  refine OL.q (Y.field L30_2 rfl) rfl ?_
  refine OL.q (Y.load T28 rfl (Ent.at 0 rfl (Up.cellIs _ _ _) (blk_cell rfl))) rfl ?_
  refine OL.q (Y.lenSl Tryd.underlying28 rfl) rfl ?_
  refine OL.buildSlice ([x.op, x.fn, (x.n : Int)].map intCells) Tryd.underlying28 C3 (by decide) rfl (by decide) rfl rfl rfl (fun b14 => ⟨rfl, rfl, ?_⟩)
  refine OL.q (Y.field L30_2 rfl) rfl ?_
  refine OL.q (Y.load T28 rfl (Ent.at 0 rfl (Up.cellIs _ _ _) (blk_cell rfl))) rfl ?_
  refine OL.append (x.kids.map intCells) 1 rfl Tryd.underlying28 E3 rfl rfl (Ent.frame (Up.rd _ _ _ _) hF) (oneRows_map _ (fun _ => rfl) _) (by omega) (by omega) rfl (fun a17 c17 => ⟨rfl, rfl, ?_⟩)
  refine OL.q (Y.assign rfl) rfl ?_
  refine OL.nil ?_
  refine EX.seq ?_
  refine CW.seq ?_
  refine CW.seq ?_
  refine CW.region ?_
  refine OL.q (Y.assign rfl) rfl ?_
  refine OL.nil ?_
  refine EX.seq ?_
  refine CW.block ?_
  generalize hbb : b1 = bb
  refine CW.loop (α := Nat × Option Addr × Nat × Nat) ⟨fun q => q.1 ≤ x.num.size ∧ q.2.2.1 = 3 + x.n + q.1, fun q => [(1, .pointer (some ⟨bb, 0, none⟩)), (3, .int .u64 14695981039346656037), (4, .slice q.2.1 q.2.2.1 q.2.2.2), (5, .int .i64 q.1)], fun q => [blk bb (termCells x) 30, row q.2.1 q.2.2.1 q.2.2.2 3 1 ((hashL x ++ (byteInts x.num).take q.1).map intCells)]⟩
    (fun q => x.num.size - q.1) (0, a17, 3 + x.n, c17) [0, 1] ⟨Nat.zero_le _, rfl⟩ ⟨rfl, rfl, rfl, rfl, trivial⟩ rfl (by show [_, _] = [_, _]; unfold hashL; simp) ?_
  rintro ⟨k, la, ln, lc⟩ ⟨hk, hln⟩
  dsimp only at hk hln ⊢
  refine CW.seq ?_
  refine CW.seq ?_
  refine CW.region ?_
  refine OL.q (Y.move rfl) rfl ?_
  refine OL.q (Y.field L30_3 rfl) rfl ?_
  refine OL.q (Y.load T9 rfl (Ent.at 0 rfl (Up.cellIs _ _ _) (blk_cell rfl))) rfl ?_
  refine OL.q (Y.lenStr Tryd.underlying9 rfl) rfl ?_
  refine OL.q (Y.lss rfl rfl) rfl ?_
  refine OL.nil ?_
  refine EX.seq ?_
  refine CW.cond rfl (fun h0 => ?_) (fun h0 => ?_)
  · repeat (first | replace h0 := yes h0 | replace h0 := no h0 | replace h0 := nyes h0 | replace h0 := nno h0)
    have hks : k < x.num.size := by omega
    have hp := byteInts_at hks
    refine CW.skip ?_
    refine EX.seq ?_
    refine CW.seq ?_
    refine CW.block ?_
    refine CW.region ?_
    refine OL.q (Y.move rfl) rfl ?_
    refine OL.q (Y.field L30_3 rfl) rfl ?_
    refine OL.q (Y.load T9 rfl (Ent.at 0 rfl (Up.cellIs _ _ _) (blk_cell rfl))) rfl ?_
    refine OL.q (Y.move rfl) rfl ?_
    refine OL.q (Y.indexStr (k := k) Tryd.underlying9 rfl rfl rfl (by omega)) rfl ?_
    refine OL.q (Y.conv Tryd.underlying5 Tryd.underlying3 rfl) rfl ?_
    rw [u8_int]
    refine OL.buildSlice ([[.int .i64 (x.num[k].toNat : Int)]]) Tryd.underlying28 C3 (by decide) rfl (by decide) rfl rfl rfl (fun b31 => ⟨rfl, rfl, ?_⟩)
    refine OL.append [[.int .i64 (x.num[k].toNat : Int)]] 1 rfl Tryd.underlying28 E3 rfl rfl (Ent.at 2 rfl (Up.rd _ _ _ _) row_rd) rfl (by omega) (by omega) rfl (fun a32 c32 => ⟨rfl, rfl, ?_⟩)
    refine OL.q (Y.assign rfl) rfl ?_
    refine OL.nil ?_
    refine EX.norB ?_
    refine EX.seq ?_
    refine CW.region ?_
    refine OL.q (Y.move rfl) rfl ?_
    refine OL.q (Y.add1 rfl rfl rfl (by omega)) rfl ?_
    refine OL.q (Y.assign rfl) rfl ?_
    refine OL.nil ?_
    exact EX.next (k + 1, a32, ln + 1, c32) [0, 1] (show k + 1 ≤ x.num.size ∧ ln + 1 = 3 + x.n + (k + 1) by omega) (show x.num.size - (k + 1) < x.num.size - k by omega) ⟨rfl, rfl, rfl, rfl, trivial⟩ rfl (by show [_, _] = [_, _]; simp only []; rw [take_snoc hp]; simp [intCells])
  · repeat (first | replace h0 := yes h0 | replace h0 := no h0 | replace h0 := nyes h0 | replace h0 := nno h0)
    have hkn : k = x.num.size := by omega
    subst hkn
    rw [List.take_of_length_le (by rw [byteInts_len]; exact Nat.le_refl _)]
    have hal : (hashL x ++ byteInts x.num).length = ln := by rw [List.length_append, hll, byteInts_len]; omega
    refine CW.exit ?_
    refine EX.exitT ?_
    refine EX.exitT ?_
    refine EX.exitB ?_
    refine EX.seq ?_
    refine CW.seq ?_
    refine CW.seq ?_
    refine CW.region ?_
    refine OL.q (Y.assign rfl) rfl ?_
    refine OL.nil ?_
    refine EX.seq ?_
    refine CW.block ?_
    refine CW.loop (α := Nat) ⟨fun k => k ≤ ln, fun k => [(1, .pointer (some ⟨bb, 0, none⟩)), (3, .int .u64 (hashOver 14695981039346656037 ((hashL x ++ byteInts x.num).take k))), (4, .slice la ln lc), (6, .int .i64 k)], fun _ => [blk bb (termCells x) 30, row la ln lc 3 1 ((hashL x ++ byteInts x.num).map intCells)]⟩
      (fun k => ln - k) 0 [0, 1] (Nat.zero_le _) ⟨rfl, (by rw [List.take_zero]; rfl), rfl, rfl, trivial⟩ rfl rfl ?_
    intro k hk
    dsimp only at hk ⊢
    refine CW.seq ?_
    refine CW.seq ?_
    refine CW.region ?_
    refine OL.q (Y.move rfl) rfl ?_
    refine OL.q (Y.move rfl) rfl ?_
    refine OL.q (Y.lenSl Tryd.underlying28 rfl) rfl ?_
    refine OL.q (Y.lss rfl rfl) rfl ?_
    refine OL.nil ?_
    refine EX.seq ?_
    refine CW.cond rfl (fun h1 => ?_) (fun h1 => ?_)
    · repeat (first | replace h1 := yes h1 | replace h1 := no h1 | replace h1 := nyes h1 | replace h1 := nno h1)
      obtain ⟨z, hp2⟩ : ∃ z, (hashL x ++ byteInts x.num)[k]? = some z := ⟨_, List.getElem?_eq_getElem (by omega)⟩
      refine CW.skip ?_
      refine EX.seq ?_
      refine CW.seq ?_
      refine CW.block ?_
      refine CW.seq ?_
      refine CW.region ?_
      refine OL.q (Y.move rfl) rfl ?_
      refine OL.q (Y.move rfl) rfl ?_
      refine OL.q (Y.move rfl) rfl ?_
      refine OL.q (Y.index (k := k) Tryd.underlying28 C3 rfl rfl (Ent.at 1 rfl (Up.rd _ _ _ _) row_rd) (by omega) (by omega)) rfl ?_
      refine OL.q (Y.load T3 rfl (cellsIs_at0 (rd_at (Ent.at 1 rfl (Up.rd _ _ _ _) row_rd) (mget intCells hp2)) rfl)) rfl ?_
      refine OL.q (Y.conv Tryd.underlying3 Tryd.underlying49 rfl) rfl ?_
      refine OL.q (Y.xor rfl rfl) rfl ?_
      refine OL.q (Y.assign rfl) rfl ?_
      refine OL.nil ?_
      refine EX.seq ?_
      refine CW.region ?_
      refine OL.q (Y.move rfl) rfl ?_
      refine OL.q (Y.mulW rfl rfl) rfl ?_
      refine OL.q (Y.assign rfl) rfl ?_
      refine OL.nil ?_
      refine EX.norB ?_
      refine EX.seq ?_
      refine CW.region ?_
      refine OL.q (Y.move rfl) rfl ?_
      refine OL.q (Y.add1 rfl rfl rfl (by omega)) rfl ?_
      refine OL.q (Y.assign rfl) rfl ?_
      refine OL.nil ?_
      exact EX.next (k + 1) [0, 1] (show k + 1 ≤ ln by omega) (show ln - (k + 1) < ln - k by omega) ⟨rfl, (by rw [take_snoc hp2, hash_snoc]; rfl), rfl, rfl, trivial⟩ rfl rfl
    · repeat (first | replace h1 := yes h1 | replace h1 := no h1 | replace h1 := nyes h1 | replace h1 := nno h1)
      refine CW.exit ?_
      refine EX.exitT ?_
      refine EX.exitT ?_
      refine EX.exitB ?_
      refine EX.seq ?_
      refine CW.seq ?_
      refine CW.region ?_
      refine OL.q (Y.move rfl) rfl ?_
      refine OL.q (Y.assign rfl) rfl ?_
      refine OL.nil ?_
      refine EX.seq ?_
      refine CW.ret ?_
      have hkn2 : k = ln := by omega
      subst hkn2
      rw [List.take_of_length_le (by omega)]
      exact EX.fin1 [] rfl rfl rfl ⟨by unfold hashT hashL; rw [hs1], rfl⟩
end Go.Proofs.YtmlnnepgigieaaaDoor
