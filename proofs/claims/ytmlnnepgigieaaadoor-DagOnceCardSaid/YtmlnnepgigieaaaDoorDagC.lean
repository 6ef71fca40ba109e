/- A term's hash; what is told of a term; keys of sorts. -/
import Derived.Test.YtmlnnepgigieaaaDoorDagB
namespace Go.Proofs.YtmlnnepgigieaaaDoor
open Go.Sx




def mixI (h n : Int) : Int := IntKind.u64.wrap (bits .xor .u64 h n * 1099511628211)
def hashOver (h : Int) (l : List Int) : Int := l.foldl (fun h n => mixI h (IntKind.u64.wrap n)) h
def byteInts (s : ByteArray) : List Int := s.data.toList.map fun b => (b.toNat : Int)
/-- A term's hash. -/
def hashT (x : TermC) : Int := hashOver 14695981039346656037 ([x.op, x.fn, (x.kids.length : Int)] ++ x.kids ++ byteInts x.num)
theorem hash_snoc (h : Int) (l : List Int) (n : Int) : hashOver h (l ++ [n]) = mixI (hashOver h l) (IntKind.u64.wrap n) := by simp [hashOver]
theorem hash_app (h : Int) (l m : List Int) : hashOver h (l ++ m) = hashOver (hashOver h l) m := by simp [hashOver]
theorem byteInts_at {s : ByteArray} {k : Nat} (h : k < s.size) : (byteInts s)[k]? = some (s[k].toNat : Int) := by
  have h1 : k < s.data.toList.length := by rw [Array.length_toList]; exact h
  unfold byteInts
  rw [List.getElem?_map, List.getElem?_eq_getElem h1]
  rfl
theorem u8_wrap (b : UInt8) : IntKind.u64.wrap (b.toNat : Int) = IntKind.u64.wrap (b.toNat : Int) := rfl
theorem byteInts_len (s : ByteArray) : (byteInts s).length = s.size := by
  unfold byteInts
  rw [List.length_map, Array.length_toList]; rfl


theorem mixed_any (h n : Int) :
    FS Tryd.prog 67 [.int .u64 h, .int .u64 n] (nothing) [] (fun r H => r = .int .u64 (mixI h n) ∧ H = []) := by
  refine FS.intro (N := 9) Tryd.func67 rfl rfl rfl (fun F w0 hF => ?_)
  refine CW.seq ?_
  refine CW.region ?_
  refine OL.q (Y.assign rfl) rfl ?_
  refine OL.nil ?_
  refine EX.seq ?_
  refine CW.seq ?_
  refine CW.region ?_
  refine OL.q (Y.move rfl) rfl ?_
  refine OL.q (Y.move rfl) rfl ?_
  refine OL.q (Y.xor rfl rfl) rfl ?_
  refine OL.q (Y.mulW rfl rfl) rfl ?_
  refine OL.q (Y.assign rfl) rfl ?_
  refine OL.nil ?_
  refine EX.seq ?_
  refine CW.ret ?_
  exact EX.fin1 [] rfl rfl rfl ⟨rfl, rfl⟩

attribute [local irreducible] mixI

set_option maxRecDepth 10000 in
theorem hash_any (x : TermC) (hx : x.kids.length = x.n ∧ x.n ≤ 1000000) (hb : x.num.size ≤ 1000000) :
    FS Tryd.prog 24 [termVal x] (rd x.a x.n 1 (x.kids.map intCells)) [] (fun r H => r = .int .u64 (hashT x) ∧ H = []) := by
  refine FS.intro (N := 54) Tryd.func24 rfl rfl rfl (fun F w0 hF => ?_)
  obtain ⟨hs1, hs2⟩ := hx
  refine CW.seq ?_
  refine CW.region ?_
  refine OL.box rfl rfl rfl (fun b1 => ⟨rfl, rfl, ?_⟩)
  refine OL.q (Y.assign rfl) rfl ?_
  refine OL.nil ?_
  refine EX.seq ?_
  refine CW.seq ?_
  refine CW.region ?_
  refine OL.q (Y.assign rfl) rfl ?_
  refine OL.nil ?_
  refine EX.seq ?_
  refine CW.seq ?_
  refine CW.seq ?_
  refine CW.region ?_
  refine OL.q (Y.field L30_0 rfl) rfl ?_
  refine OL.q (Y.load T3 rfl (Ent.at 0 rfl (Up.cellIs _ _ _) (blk_cell rfl))) rfl ?_
  refine OL.q (Y.field L30_1 rfl) rfl ?_
  refine OL.q (Y.load T3 rfl (Ent.at 0 rfl (Up.cellIs _ _ _) (blk_cell rfl))) rfl ?_
  refine OL.q (Y.field L30_2 rfl) rfl ?_
  refine OL.q (Y.load T28 rfl (Ent.at 0 rfl (Up.cellIs _ _ _) (blk_cell rfl))) rfl ?_
  refine OL.q (Y.lenSl Tryd.underlying28 rfl) rfl ?_
  refine OL.buildSlice ([x.op, x.fn, (x.n : Int)].map intCells) Tryd.underlying28 C3 (by decide) rfl (by decide) rfl rfl rfl (fun b16 => ⟨rfl, rfl, ?_⟩)
  refine OL.q (Y.lenSl Tryd.underlying28 rfl) rfl ?_
  refine OL.q (Y.move rfl) rfl ?_
  refine OL.nil ?_
  refine EX.seq ?_
  refine CW.block ?_
  generalize hbb : b1 = bb
  refine CW.loop (α := Nat) ⟨fun k => k ≤ 3, fun k => [(1, .pointer (some ⟨bb, 0, none⟩)), (3, .int .u64 (hashOver 14695981039346656037 ([x.op, x.fn, (x.n : Int)].take k))), (16, .slice (some ⟨b16, 0, none⟩) 3 3), (17, .int .i64 3), (18, .int .i64 k)], fun _ => [blk bb (termCells x) 30, row (some ⟨b16, 0, none⟩) 3 3 3 1 ([x.op, x.fn, (x.n : Int)].map intCells)]⟩
    (fun k => 3 - k) 0 [0, 1] (Nat.zero_le _) ⟨rfl, rfl, rfl, rfl, rfl, trivial⟩ rfl rfl ?_
  intro k hk
  dsimp only at hk ⊢
  refine CW.seq ?_
  refine CW.region ?_
  refine OL.q (Y.lss rfl rfl) rfl ?_
  refine OL.nil ?_
  refine EX.seq ?_
  refine CW.seq ?_
  refine CW.cond rfl (fun h0 => ?_) (fun h0 => ?_)
  · repeat (first | replace h0 := yes h0 | replace h0 := no h0 | replace h0 := nyes h0 | replace h0 := nno h0)
    obtain ⟨z, hp⟩ : ∃ z, [x.op, x.fn, (x.n : Int)][k]? = some z := ⟨_, List.getElem?_eq_getElem (by simp; omega)⟩
    refine CW.skip ?_
    refine EX.seq ?_
    refine CW.seq ?_
    refine CW.block ?_
    refine CW.seq ?_
    refine CW.region ?_
    refine OL.q (Y.index (k := k) Tryd.underlying28 C3 rfl rfl (Ent.at 1 rfl (Up.rd _ _ _ _) row_rd) (by omega) (by omega)) rfl ?_
    refine OL.q (Y.load T3 rfl (cellsIs_at0 (rd_at (Ent.at 1 rfl (Up.rd _ _ _ _) row_rd) (mget intCells hp)) rfl)) rfl ?_
    refine OL.q (Y.assign rfl) rfl ?_
    refine OL.nil ?_
    refine EX.seq ?_
    refine CW.region ?_
    refine OL.q (Y.move rfl) rfl ?_
    refine OL.q (Y.move rfl) rfl ?_
    refine OL.q (Y.conv Tryd.underlying3 Tryd.underlying49 rfl) rfl ?_
    refine OL.call [] (mixed_any (_) (_)) Tryd.call67 rfl rfl rfl rfl (Ent.nothing _) rfl ?_
    rintro _ _ ⟨rfl, rfl⟩
    refine ⟨rfl, rfl, ?_⟩
    refine OL.q (Y.assign rfl) rfl ?_
    refine OL.nil ?_
    refine EX.norB ?_
    refine EX.seq ?_
    refine CW.region ?_
    refine OL.q (Y.add1 rfl rfl rfl (by omega)) rfl ?_
    refine OL.q (Y.move rfl) rfl ?_
    refine OL.nil ?_
    exact EX.next (k + 1) [0, 1] (show k + 1 ≤ 3 by omega) (show 3 - (k + 1) < 3 - k by omega) ⟨rfl, (by rw [take_snoc hp, hash_snoc]; rfl), rfl, rfl, rfl, trivial⟩ rfl rfl
  · repeat (first | replace h0 := yes h0 | replace h0 := no h0 | replace h0 := nyes h0 | replace h0 := nno h0)
    have hk3 : k = 3 := by omega
    subst hk3
    refine CW.exit ?_
    refine EX.exitT ?_
    refine EX.exitT ?_
    refine EX.exitB ?_
    refine EX.seq ?_
    refine CW.seq ?_
    refine CW.seq ?_
    refine CW.region ?_
    refine OL.q (Y.field L30_2 rfl) rfl ?_
    refine OL.q (Y.load T28 rfl (Ent.at 0 rfl (Up.cellIs _ _ _) (blk_cell rfl))) rfl ?_
    refine OL.q (Y.lenSl Tryd.underlying28 rfl) rfl ?_
    refine OL.q (Y.move rfl) rfl ?_
    refine OL.nil ?_
    refine EX.seq ?_
    refine CW.block ?_
    refine CW.loop (α := Nat) ⟨fun k => k ≤ x.n, fun k => [(1, .pointer (some ⟨bb, 0, none⟩)), (3, .int .u64 (hashOver (hashOver 14695981039346656037 [x.op, x.fn, (x.n : Int)]) (x.kids.take k))), (28, .slice x.a x.n x.c), (29, .int .i64 x.n), (30, .int .i64 k)], fun _ => [blk bb (termCells x) 30]⟩
      (fun k => x.n - k) 0 [0] (Nat.zero_le _) ⟨rfl, (by rw [List.take_zero]; rfl), rfl, rfl, rfl, trivial⟩ rfl rfl ?_
    intro k hk
    dsimp only at hk ⊢
    refine CW.seq ?_
    refine CW.region ?_
    refine OL.q (Y.lss rfl rfl) rfl ?_
    refine OL.nil ?_
    refine EX.seq ?_
    refine CW.seq ?_
    refine CW.cond rfl (fun h1 => ?_) (fun h1 => ?_)
    · repeat (first | replace h1 := yes h1 | replace h1 := no h1 | replace h1 := nyes h1 | replace h1 := nno h1)
      obtain ⟨z, hp⟩ : ∃ z, x.kids[k]? = some z := ⟨_, List.getElem?_eq_getElem (by omega)⟩
      refine CW.skip ?_
      refine EX.seq ?_
      refine CW.seq ?_
      refine CW.block ?_
      refine CW.seq ?_
      refine CW.region ?_
      refine OL.q (Y.index (k := k) Tryd.underlying28 C3 rfl rfl (Ent.frame (Up.rd _ _ _ _) hF) (by omega) (by omega)) rfl ?_
      refine OL.q (Y.load T3 rfl (cellsIs_at0 (rd_at (Ent.frame (Up.rd _ _ _ _) hF) (mget intCells hp)) rfl)) rfl ?_
      refine OL.q (Y.assign rfl) rfl ?_
      refine OL.nil ?_
      refine EX.seq ?_
      refine CW.region ?_
      refine OL.q (Y.move rfl) rfl ?_
      refine OL.q (Y.move rfl) rfl ?_
      refine OL.q (Y.conv Tryd.underlying3 Tryd.underlying49 rfl) rfl ?_
      refine OL.call [] (mixed_any (_) (_)) Tryd.call67 rfl rfl rfl rfl (Ent.nothing _) rfl ?_
      rintro _ _ ⟨rfl, rfl⟩
      refine ⟨rfl, rfl, ?_⟩
      refine OL.q (Y.assign rfl) rfl ?_
      refine OL.nil ?_
      refine EX.norB ?_
      refine EX.seq ?_
      refine CW.region ?_
      refine OL.q (Y.add1 rfl rfl rfl (by omega)) rfl ?_
      refine OL.q (Y.move rfl) rfl ?_
      refine OL.nil ?_
      exact EX.next (k + 1) [0] (show k + 1 ≤ x.n by omega) (show x.n - (k + 1) < x.n - k by omega) ⟨rfl, (by rw [take_snoc hp, hash_snoc]; rfl), rfl, rfl, rfl, trivial⟩ rfl rfl
    · repeat (first | replace h1 := yes h1 | replace h1 := no h1 | replace h1 := nyes h1 | replace h1 := nno h1)
      have hkn : k = x.n := by omega
      subst hkn
      refine CW.exit ?_
      refine EX.exitT ?_
      refine EX.exitT ?_
      refine EX.exitB ?_
      refine EX.seq ?_
      refine CW.seq ?_
      refine CW.seq ?_
      refine CW.region ?_
      refine OL.q (Y.field L30_3 rfl) rfl ?_
      refine OL.q (Y.load T9 rfl (Ent.at 0 rfl (Up.cellIs _ _ _) (blk_cell rfl))) rfl ?_
      refine OL.q (Y.lenStr Tryd.underlying9 rfl) rfl ?_
      refine OL.q (Y.move rfl) rfl ?_
      refine OL.nil ?_
      refine EX.seq ?_
      refine CW.block ?_
      rw [List.take_of_length_le (by omega)]
      refine CW.loop (α := Nat) ⟨fun k => k ≤ x.num.size, fun k => [(1, .pointer (some ⟨bb, 0, none⟩)), (3, .int .u64 (hashOver (hashOver (hashOver 14695981039346656037 [x.op, x.fn, (x.n : Int)]) x.kids) ((byteInts x.num).take k))), (41, .int .i64 x.num.size), (42, .int .i64 k)], fun _ => [blk bb (termCells x) 30]⟩
        (fun k => x.num.size - k) 0 [0] (Nat.zero_le _) ⟨rfl, rfl, rfl, rfl, trivial⟩ rfl rfl ?_
      intro k hk
      dsimp only at hk ⊢
      refine CW.seq ?_
      refine CW.region ?_
      refine OL.q (Y.lss rfl rfl) rfl ?_
      refine OL.nil ?_
      refine EX.seq ?_
      refine CW.seq ?_
      refine CW.cond rfl (fun h2 => ?_) (fun h2 => ?_)
      · repeat (first | replace h2 := yes h2 | replace h2 := no h2 | replace h2 := nyes h2 | replace h2 := nno h2)
        have hks : k < x.num.size := by omega
        have hp := byteInts_at hks
        refine CW.skip ?_
        refine EX.seq ?_
        refine CW.seq ?_
        refine CW.block ?_
        refine CW.seq ?_
        refine CW.region ?_
        refine OL.q (Y.move rfl) rfl ?_
        refine OL.q (Y.assign rfl) rfl ?_
        refine OL.nil ?_
        refine EX.seq ?_
        refine CW.region ?_
        refine OL.q (Y.move rfl) rfl ?_
        refine OL.q (Y.field L30_3 rfl) rfl ?_
        refine OL.q (Y.load T9 rfl (Ent.at 0 rfl (Up.cellIs _ _ _) (blk_cell rfl))) rfl ?_
        refine OL.q (Y.move rfl) rfl ?_
        refine OL.q (Y.indexStr (k := k) Tryd.underlying9 rfl rfl rfl (by omega)) rfl ?_
        refine OL.q (Y.conv Tryd.underlying5 Tryd.underlying49 rfl) rfl ?_
        refine OL.call [] (mixed_any (_) (_)) Tryd.call67 rfl rfl rfl rfl (Ent.nothing _) rfl ?_
        rintro _ _ ⟨rfl, rfl⟩
        refine ⟨rfl, rfl, ?_⟩
        refine OL.q (Y.assign rfl) rfl ?_
        refine OL.nil ?_
        refine EX.norB ?_
        refine EX.seq ?_
        refine CW.region ?_
        refine OL.q (Y.add1 rfl rfl rfl (by omega)) rfl ?_
        refine OL.q (Y.move rfl) rfl ?_
        refine OL.nil ?_
        exact EX.next (k + 1) [0] (show k + 1 ≤ x.num.size by omega) (show x.num.size - (k + 1) < x.num.size - k by omega) ⟨rfl, (by rw [take_snoc hp, hash_snoc]; rfl), rfl, rfl, trivial⟩ rfl rfl
      · repeat (first | replace h2 := yes h2 | replace h2 := no h2 | replace h2 := nyes h2 | replace h2 := nno h2)
        refine CW.exit ?_
        refine EX.exitT ?_
        refine EX.exitT ?_
        refine EX.exitB ?_
        refine EX.seq ?_
        refine CW.seq ?_
        refine CW.region ?_
        refine OL.q (Y.move rfl) rfl ?_
        refine OL.q (Y.assign rfl) rfl ?_
        refine OL.nil ?_
        refine EX.seq ?_
        refine CW.ret ?_
        have hkn : k = x.num.size := by omega
        subst hkn
        rw [List.take_of_length_le (by rw [byteInts_len]; exact Nat.le_refl _)]
        exact EX.fin1 [] rfl rfl rfl ⟨by unfold hashT; rw [hash_app, hash_app, hs1], rfl⟩
end Go.Proofs.YtmlnnepgigieaaaDoor
