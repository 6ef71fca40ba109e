/- The functions of scope, over one translation: each yields what its Lean function says. -/
import Derived.Test.YthnejajlkijobaaRows
import Derived.Test.YthnejajlkijobaaSub
import Derived.KernelRfl
namespace Go.Proofs.Ythnejajlkijobaa
open Go.Sx
theorem mixed : Try.prog.follows .mixedOrders = true := by kernel_rfl

theorem T3 : Ty1 Try.prog 3 (.int .i64 0) := ⟨Try.isAgg3, Try.sizeOf3, Try.zeroValue3⟩
theorem T9 : Ty1 Try.prog 9 (.string ⟨#[]⟩) := ⟨Try.isAgg9, Try.sizeOf9, Try.zeroValue9⟩
theorem T28 : Ty1 Try.prog 28 (.slice none 0 0) := ⟨Try.isAgg28, Try.sizeOf28, Try.zeroValue28⟩
theorem T72 : Ty1 Try.prog 72 (.map none) := ⟨Try.isAgg72, Try.sizeOf72, Try.zeroValue72⟩
theorem T73 : Ty1 Try.prog 73 (.slice none 0 0) := ⟨Try.isAgg73, Try.sizeOf73, Try.zeroValue73⟩
theorem S77 : TyN Try.prog 77 2 [.string ⟨#[]⟩, .int .i64 0] := ⟨Try.isAgg77, Try.sizeOf77, Try.zeroValue77, rfl⟩
theorem C3 : TyC Try.prog 3 1 [.int .i64 0] := T3.c rfl
theorem C9 : TyC Try.prog 9 1 [.string ⟨#[]⟩] := T9.c rfl
theorem C28 : TyC Try.prog 28 1 [.slice none 0 0] := T28.c rfl
theorem C73 : TyC Try.prog 73 1 [.slice none 0 0] := T73.c rfl
theorem C77 : TyC Try.prog 77 2 [.string ⟨#[]⟩, .int .i64 0] := S77.c
theorem L75_0 : Fld Try.prog 75 0 0 := ⟨⟨_, Try.underlying75, _, rfl, rfl, 1, by decide, Try.sizeOf73⟩⟩
theorem L75_1 : Fld Try.prog 75 1 1 := ⟨⟨_, Try.underlying75, _, rfl, rfl, 1, by decide, Try.sizeOf72⟩⟩
theorem L75_2 : Fld Try.prog 75 2 2 := ⟨⟨_, Try.underlying75, _, rfl, rfl, 1, by decide, Try.sizeOf28⟩⟩
theorem L77_0 : Fld Try.prog 77 0 0 := ⟨⟨_, Try.underlying77, _, rfl, rfl, 1, by decide, Try.sizeOf9⟩⟩
theorem L77_1 : Fld Try.prog 77 1 1 := ⟨⟨_, Try.underlying77, _, rfl, rfl, 1, by decide, Try.sizeOf3⟩⟩
theorem B75 : StT Try.prog 75 [(0, 1), (1, 1), (2, 1)] [.slice none 0 0, .map none, .slice none 0 0] := StT.of (it := Try.t75) (by kernel_rfl) Try.underlying75 rfl rfl (by kernel_rfl)
theorem B77 : StT Try.prog 77 [(0, 1), (1, 1)] [.string ⟨#[]⟩, .int .i64 0] := StT.of (it := Try.t77) (by kernel_rfl) Try.underlying77 rfl rfl (by kernel_rfl)
theorem E3 : Elt Try.prog 3 1 8 [.int .i64 0] := ⟨⟨Try.t3, by kernel_rfl, rfl, rfl, _, rfl, rfl⟩, rfl, by decide⟩
theorem E9 : Elt Try.prog 9 1 16 [.string ⟨#[]⟩] := ⟨⟨Try.t9, by kernel_rfl, rfl, rfl, _, rfl, rfl⟩, rfl, by decide⟩
theorem E77 : Elt Try.prog 77 2 24 [.string ⟨#[]⟩, .int .i64 0] := ⟨⟨Try.t77, by kernel_rfl, rfl, rfl, _, rfl, rfl⟩, rfl, by decide⟩


/-- A table of names: what is bound, in order; for each level above the first how many names there were ahead of it. -/
structure Scope where
  ents : List (ByteArray × Int)
  levels : List Nat
def entCells (p : ByteArray × Int) : List Value := [.string p.1, .int .i64 p.2]
def numCells (n : Nat) : List Value := [.int .i64 n]
def intCells (n : Int) : List Value := [.int .i64 n]
def strCells (s : ByteArray) : List Value := [.string s]
/-- Its places, by name. -/
def placesFrom : Nat → List (ByteArray × Int) → List (ByteArray × Value)
  | _, [] => []
  | n, (s, _) :: l => (s, .int .i64 n) :: placesFrom (n + 1) l
/-- How a table lies in memory: its struct, its entries, its map, its levels. -/
structure ScopeV where
  a : Option Addr
  n : Nat
  c : Nat
  m : Nat
  la : Option Addr
  ln : Nat
  lc : Nat
def scopeL (t : Nat) (S : Scope) (v : ScopeV) : List HP :=
  [blk t [.slice v.a v.n v.c, .map (some v.m), .slice v.la v.ln v.lc] 75,
   row v.a v.n v.c 77 2 (S.ents.map entCells), mapc Value.string v.m (placesFrom 0 S.ents), row v.la v.ln v.lc 3 1 (S.levels.map numCells)]
/-- No name twice; the levels rise, none beyond the names. -/
structure Scope.Ok (S : Scope) : Prop where
  nodup : (S.ents.map Prod.fst).Nodup
  rising : S.levels.Pairwise (· ≤ ·)
  within : ∀ l ∈ S.levels, l ≤ S.ents.length
def scopeAt (t : Nat) (S : Scope) : HP := fun h => ∃ v : ScopeV, S.Ok ∧ star (scopeL t S v) h

theorem scope_open {t : Nat} {S : Scope} {F : List HP} : ∀ h, sl ([scopeAt t S] ++ F) h → ∃ v : ScopeV, (S.Ok ∧ v.n = S.ents.length ∧ v.ln = S.levels.length ∧ v.n ≤ v.c ∧ v.ln ≤ v.lc) ∧ sl (scopeL t S v ++ F) h := by
  intro h hs
  obtain ⟨v, hv⟩ := sl_ex hs
  obtain ⟨hn, hv⟩ := sl_pure hv
  have h2 := sl_star.1 hv
  obtain ⟨_, _, _, _, _, hr, _⟩ := h2.take (i := 1) rfl
  obtain ⟨_, _, _, _, _, hq, _⟩ := h2.take (i := 3) rfl
  exact ⟨v, ⟨hn, by simpa using hr.1.symm, by simpa using hq.1.symm, row_cap hr, row_cap hq⟩, h2⟩
theorem scope_shut {t : Nat} {S : Scope} {F : List HP} (v : ScopeV) (hn : S.Ok) : ∀ h, sl (scopeL t S v ++ F) h → sl ([scopeAt t S] ++ F) h := by
  intro h hs
  obtain ⟨h1, h2, d, e1, e2, s1, s2⟩ := (sl_star (l := scopeL t S v) (l' := F)).2 hs
  exact ⟨h1, h2, d, e1, e2, ⟨v, hn, s1⟩, s2⟩



/-- Where a name stands. -/
def posOf (s : ByteArray) : List (ByteArray × Int) → Option Nat
  | [] => none
  | p :: l => if s = p.1 then some 0 else (posOf s l).map (· + 1)
theorem posOf_at {s : ByteArray} : ∀ {l : List (ByteArray × Int)} {k : Nat}, posOf s l = some k → ∃ x, l[k]? = some (s, x)
  | [], _, h => nomatch h
  | p :: l, k, h => by
    simp only [posOf] at h
    split at h
    · rename_i hs; cases h; exact ⟨p.2, by simp [hs]⟩
    · cases hp : posOf s l with
      | none => rw [hp] at h; cases h
      | some j =>
        rw [hp] at h; cases h
        obtain ⟨x, hx⟩ := posOf_at hp
        exact ⟨x, by simpa using hx⟩
theorem assoc_places (s : ByteArray) : ∀ (l : List (ByteArray × Int)) (n : Nat), assoc s (placesFrom n l) = (posOf s l).map (fun k => Value.int .i64 ((n + k : Nat) : Int))
  | [], _ => rfl
  | p :: l, n => by
    simp only [placesFrom, assoc, posOf]
    by_cases hs : s = p.1
    · simp [hs]
    · simp only [hs, if_false, assoc_places s l (n + 1), Option.map_map]
      congr 1; funext k; simp; omega
theorem places_snoc (s : ByteArray) (x : Int) : ∀ (l : List (ByteArray × Int)) (n : Nat), posOf s l = none → putKey s (.int .i64 ((n + l.length : Nat) : Int)) (placesFrom n l) = placesFrom n (l ++ [(s, x)])
  | [], _, _ => by simp [placesFrom, putKey]
  | p :: l, n, h => by
    simp only [posOf] at h
    split at h
    · cases h
    · rename_i hs
      simp only [placesFrom, putKey, hs, if_false, List.cons_append, List.length_cons]
      rw [← places_snoc s x l (n + 1) (by simpa using h)]
      congr 3; omega
theorem posOf_none {s : ByteArray} : ∀ {l : List (ByteArray × Int)}, posOf s l = none → s ∉ l.map Prod.fst
  | [], _ => by simp
  | p :: l, h => by
    simp only [posOf] at h
    split at h
    · cases h
    · rename_i hs
      simp only [List.map_cons, List.mem_cons, not_or]
      exact ⟨hs, posOf_none (by simpa using h)⟩


theorem new_any  :
    FS Try.prog 7 [] (nothing) [] (fun v H => ∃ t, v = .pointer (some ⟨t, 0, none⟩) ∧ H = [scopeAt t ⟨[], []⟩]) := by
  refine FS.intro (N := 4) Try.func7 rfl rfl rfl (fun F w0 hF => ?_)
  refine CW.seq ?_
  refine CW.region ?_
  refine OL.q (Y.assign rfl) rfl ?_
  refine OL.nil ?_
  refine EX.seq ?_
  refine CW.seq ?_
  refine CW.region ?_
  refine OL.makeMap Value.string rfl (fun b1 => ⟨rfl, rfl, ?_⟩)
  refine OL.q (Y.build B75 rfl rfl) rfl ?_
  refine OL.box rfl rfl rfl (fun b3 => ⟨rfl, rfl, ?_⟩)
  refine OL.q (Y.assign rfl) rfl ?_
  refine OL.nil ?_
  refine EX.seq ?_
  refine CW.ret ?_
  refine EX.read (fun _ : Unit => True) (fun _ => [scopeAt b3 ⟨[], []⟩]) (fun h hs => ⟨(), trivial, scope_shut (S := ⟨[], []⟩) ⟨none, 0, 0, b1, none, 0, 0⟩ ⟨List.nodup_nil, List.Pairwise.nil, fun _ hx => nomatch hx⟩ h
      (sl.picked (l := [_, _, _, _]) (F := F) (is := [3, 1, 2, 0]) rfl (sl_row_nil 3 1 (sl_row_nil 77 2 hs)))⟩) (fun _ _ => ?_)
  exact EX.fin1 [0] rfl rfl rfl ⟨b3, rfl, rfl⟩

theorem levels_any (t : Nat) (S : Scope) :
    FS Try.prog 14 [.pointer (some ⟨t, 0, none⟩)] (nothing) [scopeAt t S] (fun v H => v = .int .i64 S.levels.length ∧ H = [scopeAt t S]) := by
  refine FS.intro (N := 8) Try.func14 rfl rfl rfl (fun F w0 hF => ?_)
  refine CW.read _ (scopeL t S) scope_open ?_
  rintro v ⟨hn, e1, e2, e3, e4⟩
  refine CW.seq ?_
  refine CW.region ?_
  refine OL.q (Y.assign rfl) rfl ?_
  refine OL.nil ?_
  refine EX.seq ?_
  refine CW.seq ?_
  refine CW.region ?_
  refine OL.q (Y.move rfl) rfl ?_
  refine OL.q (Y.nilCheck rfl) rfl ?_
  refine OL.q (Y.field L75_2 rfl) rfl ?_
  first | refine OL.q (Y.load T28 rfl (Ent.at 0 rfl (Up.cellIs _ _ _) (blk_cell rfl))) rfl ?_ | refine OL.q (Y.load T28 rfl (Ent.at 1 rfl (Up.cellIs _ _ _) (blk_cell rfl))) rfl ?_ | refine OL.q (Y.load T28 rfl (Ent.at 2 rfl (Up.cellIs _ _ _) (blk_cell rfl))) rfl ?_ | refine OL.q (Y.load T28 rfl (Ent.at 3 rfl (Up.cellIs _ _ _) (blk_cell rfl))) rfl ?_ | refine OL.q (Y.load T28 rfl (Ent.at 4 rfl (Up.cellIs _ _ _) (blk_cell rfl))) rfl ?_ | refine OL.q (Y.load T28 rfl (Ent.at 5 rfl (Up.cellIs _ _ _) (blk_cell rfl))) rfl ?_
  refine OL.q (Y.lenSl Try.underlying28 rfl) rfl ?_
  refine OL.q (Y.assign rfl) rfl ?_
  refine OL.nil ?_
  refine EX.seq ?_
  refine CW.ret ?_
  refine EX.read (fun _ : Unit => True) (fun _ => [scopeAt t S]) (fun h hs => ⟨(), trivial, scope_shut v hn h (hs.picked (is := [0, 1, 2, 3]) rfl)⟩) (fun _ _ => ?_)
  refine EX.fin1 [0] rfl rfl rfl ⟨?_, rfl⟩
  rw [e2]

theorem find_some (t : Nat) (S : Scope) (s : ByteArray) (k : Nat) (x : Int) (hk : posOf s S.ents = some k) (hx : S.ents[k]? = some (s, x)) :
    FS Try.prog 17 [.pointer (some ⟨t, 0, none⟩), .string s] (nothing) [scopeAt t S] (fun v H => v = .tuple #[.int .i64 x, .bool true] ∧ H = [scopeAt t S]) := by
  refine FS.intro (N := 27) Try.func17 rfl rfl rfl (fun F w0 hF => ?_)
  refine CW.read _ (scopeL t S) scope_open ?_
  rintro v ⟨hn, e1, e2, e3, e4⟩
  have ha : assoc s (placesFrom 0 S.ents) = some (.int .i64 k) := by rw [assoc_places, hk]; simp
  have hlt : k < S.ents.length := (List.getElem?_eq_some_iff.1 hx).1
  refine CW.seq ?_
  refine CW.region ?_
  refine OL.q (Y.assign rfl) rfl ?_
  refine OL.q (Y.assign rfl) rfl ?_
  refine OL.nil ?_
  refine EX.seq ?_
  refine CW.seq ?_
  refine CW.region ?_
  refine OL.q (Y.move rfl) rfl ?_
  refine OL.q (Y.nilCheck rfl) rfl ?_
  refine OL.q (Y.field L75_1 rfl) rfl ?_
  first | refine OL.q (Y.load T72 rfl (Ent.at 0 rfl (Up.cellIs _ _ _) (blk_cell rfl))) rfl ?_ | refine OL.q (Y.load T72 rfl (Ent.at 1 rfl (Up.cellIs _ _ _) (blk_cell rfl))) rfl ?_ | refine OL.q (Y.load T72 rfl (Ent.at 2 rfl (Up.cellIs _ _ _) (blk_cell rfl))) rfl ?_ | refine OL.q (Y.load T72 rfl (Ent.at 3 rfl (Up.cellIs _ _ _) (blk_cell rfl))) rfl ?_ | refine OL.q (Y.load T72 rfl (Ent.at 4 rfl (Up.cellIs _ _ _) (blk_cell rfl))) rfl ?_ | refine OL.q (Y.load T72 rfl (Ent.at 5 rfl (Up.cellIs _ _ _) (blk_cell rfl))) rfl ?_
  refine OL.q (Y.move rfl) rfl ?_
  refine OL.q (Y.lookup2S 2 rfl Try.underlying72 (KeyT.string Try.underlying9) Try.zeroValue3 rfl rfl ha) rfl ?_
  refine OL.q (Y.move rfl) rfl ?_
  refine OL.q (Y.extract rfl rfl) rfl ?_
  refine OL.q (Y.extract rfl rfl) rfl ?_
  refine OL.q (Y.assign rfl) rfl ?_
  refine OL.q (Y.assign rfl) rfl ?_
  refine OL.nil ?_
  refine EX.seq ?_
  refine CW.seq ?_
  refine CW.seq ?_
  refine CW.region ?_
  refine OL.q (Y.move rfl) rfl ?_
  refine OL.q (Y.not rfl) rfl ?_
  refine OL.nil ?_
  refine EX.seq ?_
  refine CW.cond rfl (fun h0 => ?_) (fun h0 => ?_)
  · repeat (first | replace h0 := yes h0 | replace h0 := no h0 | replace h0 := nyes h0 | replace h0 := nno h0)
    exfalso
    contradiction
  repeat (first | replace h0 := yes h0 | replace h0 := no h0 | replace h0 := nyes h0 | replace h0 := nno h0)
  refine CW.skip ?_
  refine EX.seq ?_
  refine CW.seq ?_
  refine CW.region ?_
  refine OL.q (Y.move rfl) rfl ?_
  refine OL.q (Y.nilCheck rfl) rfl ?_
  refine OL.q (Y.field L75_0 rfl) rfl ?_
  first | refine OL.q (Y.load T73 rfl (Ent.at 0 rfl (Up.cellIs _ _ _) (blk_cell rfl))) rfl ?_ | refine OL.q (Y.load T73 rfl (Ent.at 1 rfl (Up.cellIs _ _ _) (blk_cell rfl))) rfl ?_ | refine OL.q (Y.load T73 rfl (Ent.at 2 rfl (Up.cellIs _ _ _) (blk_cell rfl))) rfl ?_ | refine OL.q (Y.load T73 rfl (Ent.at 3 rfl (Up.cellIs _ _ _) (blk_cell rfl))) rfl ?_ | refine OL.q (Y.load T73 rfl (Ent.at 4 rfl (Up.cellIs _ _ _) (blk_cell rfl))) rfl ?_ | refine OL.q (Y.load T73 rfl (Ent.at 5 rfl (Up.cellIs _ _ _) (blk_cell rfl))) rfl ?_
  refine OL.q (Y.move rfl) rfl ?_
  first | refine OL.q (Y.index Try.underlying73 C77 rfl rfl (Ent.at 0 rfl (Up.rd _ _ _ _) row_rd) rfl (by omega)) rfl ?_ | refine OL.q (Y.index Try.underlying73 C77 rfl rfl (Ent.at 1 rfl (Up.rd _ _ _ _) row_rd) rfl (by omega)) rfl ?_ | refine OL.q (Y.index Try.underlying73 C77 rfl rfl (Ent.at 2 rfl (Up.rd _ _ _ _) row_rd) rfl (by omega)) rfl ?_ | refine OL.q (Y.index Try.underlying73 C77 rfl rfl (Ent.at 3 rfl (Up.rd _ _ _ _) row_rd) rfl (by omega)) rfl ?_ | refine OL.q (Y.index Try.underlying73 C77 rfl rfl (Ent.at 4 rfl (Up.rd _ _ _ _) row_rd) rfl (by omega)) rfl ?_ | refine OL.q (Y.index Try.underlying73 C77 rfl rfl (Ent.at 5 rfl (Up.rd _ _ _ _) row_rd) rfl (by omega)) rfl ?_
  refine OL.q (Y.field L77_1 rfl) rfl ?_
  refine OL.q (Y.load T3 rfl (cellsIs_at (rd_at (Ent.at 1 rfl (Up.rd _ _ _ _) row_rd) (mget _ hx)) rfl)) rfl ?_
  refine OL.q (Y.assign rfl) rfl ?_
  refine OL.q (Y.assign rfl) rfl ?_
  refine OL.nil ?_
  refine EX.seq ?_
  refine CW.ret ?_
  refine EX.read (fun _ : Unit => True) (fun _ => [scopeAt t S]) (fun h hs => ⟨(), trivial, scope_shut v hn h (hs.picked (is := [0, 1, 2, 3]) rfl)⟩) (fun _ _ => ?_)
  exact EX.fin2 [0] rfl rfl rfl rfl ⟨rfl, rfl⟩

theorem find_none (t : Nat) (S : Scope) (s : ByteArray) (hk : posOf s S.ents = none) :
    FS Try.prog 17 [.pointer (some ⟨t, 0, none⟩), .string s] (nothing) [scopeAt t S] (fun v H => v = .tuple #[.int .i64 0, .bool false] ∧ H = [scopeAt t S]) := by
  refine FS.intro (N := 27) Try.func17 rfl rfl rfl (fun F w0 hF => ?_)
  refine CW.read _ (scopeL t S) scope_open ?_
  rintro v ⟨hn, e1, e2, e3, e4⟩
  have ha : assoc s (placesFrom 0 S.ents) = none := by rw [assoc_places, hk]; rfl
  refine CW.seq ?_
  refine CW.region ?_
  refine OL.q (Y.assign rfl) rfl ?_
  refine OL.q (Y.assign rfl) rfl ?_
  refine OL.nil ?_
  refine EX.seq ?_
  refine CW.seq ?_
  refine CW.region ?_
  refine OL.q (Y.move rfl) rfl ?_
  refine OL.q (Y.nilCheck rfl) rfl ?_
  refine OL.q (Y.field L75_1 rfl) rfl ?_
  first | refine OL.q (Y.load T72 rfl (Ent.at 0 rfl (Up.cellIs _ _ _) (blk_cell rfl))) rfl ?_ | refine OL.q (Y.load T72 rfl (Ent.at 1 rfl (Up.cellIs _ _ _) (blk_cell rfl))) rfl ?_ | refine OL.q (Y.load T72 rfl (Ent.at 2 rfl (Up.cellIs _ _ _) (blk_cell rfl))) rfl ?_ | refine OL.q (Y.load T72 rfl (Ent.at 3 rfl (Up.cellIs _ _ _) (blk_cell rfl))) rfl ?_ | refine OL.q (Y.load T72 rfl (Ent.at 4 rfl (Up.cellIs _ _ _) (blk_cell rfl))) rfl ?_ | refine OL.q (Y.load T72 rfl (Ent.at 5 rfl (Up.cellIs _ _ _) (blk_cell rfl))) rfl ?_
  refine OL.q (Y.move rfl) rfl ?_
  refine OL.q (Y.lookup2N 2 rfl Try.underlying72 (KeyT.string Try.underlying9) Try.zeroValue3 rfl rfl ha) rfl ?_
  refine OL.q (Y.move rfl) rfl ?_
  refine OL.q (Y.extract rfl rfl) rfl ?_
  refine OL.q (Y.extract rfl rfl) rfl ?_
  refine OL.q (Y.assign rfl) rfl ?_
  refine OL.q (Y.assign rfl) rfl ?_
  refine OL.nil ?_
  refine EX.seq ?_
  refine CW.seq ?_
  refine CW.seq ?_
  refine CW.region ?_
  refine OL.q (Y.move rfl) rfl ?_
  refine OL.q (Y.not rfl) rfl ?_
  refine OL.nil ?_
  refine EX.seq ?_
  refine CW.cond rfl (fun h0 => ?_) (fun h0 => ?_)
  rotate_left
  · repeat (first | replace h0 := yes h0 | replace h0 := no h0 | replace h0 := nyes h0 | replace h0 := nno h0)
    exfalso
    contradiction
  repeat (first | replace h0 := yes h0 | replace h0 := no h0 | replace h0 := nyes h0 | replace h0 := nno h0)
  refine CW.seq ?_
  refine CW.region ?_
  refine OL.q (Y.move rfl) rfl ?_
  refine OL.q (Y.assign rfl) rfl ?_
  refine OL.q (Y.assign rfl) rfl ?_
  refine OL.nil ?_
  refine EX.seq ?_
  refine CW.ret ?_
  refine EX.retT ?_
  refine EX.read (fun _ : Unit => True) (fun _ => [scopeAt t S]) (fun h hs => ⟨(), trivial, scope_shut v hn h (hs.picked (is := [0, 1, 2, 3]) rfl)⟩) (fun _ _ => ?_)
  exact EX.fin2 [0] rfl rfl rfl rfl ⟨rfl, rfl⟩


theorem fst_snoc {s : ByteArray} {x : Int} {l : List (ByteArray × Int)} (hn : (l.map Prod.fst).Nodup) (hk : posOf s l = none) : ((l ++ [(s, x)]).map Prod.fst).Nodup := by
  rw [List.map_append, List.nodup_append]
  refine ⟨hn, by simp, fun a ha b hb => ?_⟩
  simp at hb; subst hb
  exact fun e => posOf_none hk (e ▸ ha)
theorem ok_bind {S : Scope} {s : ByteArray} {x : Int} (h : S.Ok) (hk : posOf s S.ents = none) : (⟨S.ents ++ [(s, x)], S.levels⟩ : Scope).Ok where
  nodup := fst_snoc h.nodup hk
  rising := h.rising
  within l hl := by have := h.within l hl; simp; omega


theorem bind_twice (t : Nat) (S : Scope) (s : ByteArray) (x : Int) (k : Nat) (hk : posOf s S.ents = some k) :
    FS Try.prog 8 [.pointer (some ⟨t, 0, none⟩), .string s, .int .i64 x] (nothing) [scopeAt t S] (fun v H => v = .int .i64 13 ∧ H = [scopeAt t S]) := by
  refine FS.intro (N := 41) Try.func8 rfl rfl rfl (fun F w0 hF => ?_)
  refine CW.read _ (scopeL t S) scope_open ?_
  rintro v ⟨hn, e1, e2, e3, e4⟩
  have ha : assoc s (placesFrom 0 S.ents) = some (.int .i64 k) := by rw [assoc_places, hk]; simp
  refine CW.seq ?_
  refine CW.region ?_
  refine OL.q (Y.assign rfl) rfl ?_
  refine OL.nil ?_
  refine EX.seq ?_
  refine CW.seq ?_
  refine CW.seq ?_
  refine CW.region ?_
  refine OL.q (Y.move rfl) rfl ?_
  refine OL.q (Y.nilCheck rfl) rfl ?_
  refine OL.q (Y.field L75_1 rfl) rfl ?_
  first | refine OL.q (Y.load T72 rfl (Ent.at 0 rfl (Up.cellIs _ _ _) (blk_cell rfl))) rfl ?_ | refine OL.q (Y.load T72 rfl (Ent.at 1 rfl (Up.cellIs _ _ _) (blk_cell rfl))) rfl ?_ | refine OL.q (Y.load T72 rfl (Ent.at 2 rfl (Up.cellIs _ _ _) (blk_cell rfl))) rfl ?_ | refine OL.q (Y.load T72 rfl (Ent.at 3 rfl (Up.cellIs _ _ _) (blk_cell rfl))) rfl ?_ | refine OL.q (Y.load T72 rfl (Ent.at 4 rfl (Up.cellIs _ _ _) (blk_cell rfl))) rfl ?_ | refine OL.q (Y.load T72 rfl (Ent.at 5 rfl (Up.cellIs _ _ _) (blk_cell rfl))) rfl ?_
  refine OL.q (Y.move rfl) rfl ?_
  refine OL.q (Y.lookup2S 2 rfl Try.underlying72 (KeyT.string Try.underlying9) Try.zeroValue3 rfl rfl ha) rfl ?_
  refine OL.q (Y.move rfl) rfl ?_
  refine OL.q (Y.extract rfl rfl) rfl ?_
  refine OL.q (Y.extract rfl rfl) rfl ?_
  refine OL.q (Y.assign rfl) rfl ?_
  refine OL.q (Y.assign rfl) rfl ?_
  refine OL.nil ?_
  refine EX.seq ?_
  refine CW.seq ?_
  refine CW.region ?_
  refine OL.q (Y.move rfl) rfl ?_
  refine OL.nil ?_
  refine EX.seq ?_
  refine CW.cond rfl (fun h0 => ?_) (fun h0 => ?_)
  rotate_left
  · repeat (first | replace h0 := yes h0 | replace h0 := no h0 | replace h0 := nyes h0 | replace h0 := nno h0)
    exfalso
    contradiction
  repeat (first | replace h0 := yes h0 | replace h0 := no h0 | replace h0 := nyes h0 | replace h0 := nno h0)
  refine CW.seq ?_
  refine CW.region ?_
  refine OL.q (Y.assign rfl) rfl ?_
  refine OL.nil ?_
  refine EX.seq ?_
  refine CW.ret ?_
  refine EX.retT ?_
  refine EX.read (fun _ : Unit => True) (fun _ => [scopeAt t S]) (fun h hs => ⟨(), trivial, scope_shut v hn h (hs.picked (is := [0, 1, 2, 3]) rfl)⟩) (fun _ _ => ?_)
  exact EX.fin1 [0] rfl rfl rfl ⟨rfl, rfl⟩

theorem bind_new (t : Nat) (S : Scope) (s : ByteArray) (x : Int) (hk : posOf s S.ents = none) (hl : S.ents.length ≤ 1000000) :
    FS Try.prog 8 [.pointer (some ⟨t, 0, none⟩), .string s, .int .i64 x] (nothing) [scopeAt t S] (fun v H => v = .int .i64 0 ∧ H = [scopeAt t ⟨S.ents ++ [(s, x)], S.levels⟩]) := by
  refine FS.intro (N := 41) Try.func8 rfl rfl rfl (fun F w0 hF => ?_)
  refine CW.read _ (scopeL t S) scope_open ?_
  rintro v ⟨hn, e1, e2, e3, e4⟩
  have ha : assoc s (placesFrom 0 S.ents) = none := by rw [assoc_places, hk]; rfl
  refine CW.seq ?_
  refine CW.region ?_
  refine OL.q (Y.assign rfl) rfl ?_
  refine OL.nil ?_
  refine EX.seq ?_
  refine CW.seq ?_
  refine CW.seq ?_
  refine CW.region ?_
  refine OL.q (Y.move rfl) rfl ?_
  refine OL.q (Y.nilCheck rfl) rfl ?_
  refine OL.q (Y.field L75_1 rfl) rfl ?_
  first | refine OL.q (Y.load T72 rfl (Ent.at 0 rfl (Up.cellIs _ _ _) (blk_cell rfl))) rfl ?_ | refine OL.q (Y.load T72 rfl (Ent.at 1 rfl (Up.cellIs _ _ _) (blk_cell rfl))) rfl ?_ | refine OL.q (Y.load T72 rfl (Ent.at 2 rfl (Up.cellIs _ _ _) (blk_cell rfl))) rfl ?_ | refine OL.q (Y.load T72 rfl (Ent.at 3 rfl (Up.cellIs _ _ _) (blk_cell rfl))) rfl ?_ | refine OL.q (Y.load T72 rfl (Ent.at 4 rfl (Up.cellIs _ _ _) (blk_cell rfl))) rfl ?_ | refine OL.q (Y.load T72 rfl (Ent.at 5 rfl (Up.cellIs _ _ _) (blk_cell rfl))) rfl ?_
  refine OL.q (Y.move rfl) rfl ?_
  refine OL.q (Y.lookup2N 2 rfl Try.underlying72 (KeyT.string Try.underlying9) Try.zeroValue3 rfl rfl ha) rfl ?_
  refine OL.q (Y.move rfl) rfl ?_
  refine OL.q (Y.extract rfl rfl) rfl ?_
  refine OL.q (Y.extract rfl rfl) rfl ?_
  refine OL.q (Y.assign rfl) rfl ?_
  refine OL.q (Y.assign rfl) rfl ?_
  refine OL.nil ?_
  refine EX.seq ?_
  refine CW.seq ?_
  refine CW.region ?_
  refine OL.q (Y.move rfl) rfl ?_
  refine OL.nil ?_
  refine EX.seq ?_
  refine CW.cond rfl (fun h0 => ?_) (fun h0 => ?_)
  · repeat (first | replace h0 := yes h0 | replace h0 := no h0 | replace h0 := nyes h0 | replace h0 := nno h0)
    exfalso
    contradiction
  repeat (first | replace h0 := yes h0 | replace h0 := no h0 | replace h0 := nyes h0 | replace h0 := nno h0)
  refine CW.skip ?_
  refine EX.seq ?_
  refine CW.seq ?_
  refine CW.drawn [(true, 0), (true, 1), (true, 2), (true, 3), (true, 4), (true, 5), (true, 6), (true, 7), (true, 8), (true, 9)] [10] [0] mixed (by kernel_rfl) (by repeat (first | exact PanicOk.body | refine PanicOk.then ?_ | refine PanicOk.block ?_)) (by kernel_rfl) rfl rfl rfl rfl ?_
  refine OL.qt (Y.move rfl) rfl ?_
  refine OL.qt (Y.nilCheck rfl) rfl ?_
  refine OL.qt (Y.field L75_1 rfl) rfl ?_
  first | refine OL.qt (Y.load T72 rfl (Ent.at 0 rfl (Up.cellIs _ _ _) (blk_cell rfl))) rfl ?_ | refine OL.qt (Y.load T72 rfl (Ent.at 1 rfl (Up.cellIs _ _ _) (blk_cell rfl))) rfl ?_ | refine OL.qt (Y.load T72 rfl (Ent.at 2 rfl (Up.cellIs _ _ _) (blk_cell rfl))) rfl ?_ | refine OL.qt (Y.load T72 rfl (Ent.at 3 rfl (Up.cellIs _ _ _) (blk_cell rfl))) rfl ?_ | refine OL.qt (Y.load T72 rfl (Ent.at 4 rfl (Up.cellIs _ _ _) (blk_cell rfl))) rfl ?_ | refine OL.qt (Y.load T72 rfl (Ent.at 5 rfl (Up.cellIs _ _ _) (blk_cell rfl))) rfl ?_
  refine OL.qt (Y.move rfl) rfl ?_
  refine OL.qt (Y.move rfl) rfl ?_
  refine OL.qt (Y.nilCheck rfl) rfl ?_
  refine OL.qt (Y.field L75_0 rfl) rfl ?_
  first | refine OL.qt (Y.load T73 rfl (Ent.at 0 rfl (Up.cellIs _ _ _) (blk_cell rfl))) rfl ?_ | refine OL.qt (Y.load T73 rfl (Ent.at 1 rfl (Up.cellIs _ _ _) (blk_cell rfl))) rfl ?_ | refine OL.qt (Y.load T73 rfl (Ent.at 2 rfl (Up.cellIs _ _ _) (blk_cell rfl))) rfl ?_ | refine OL.qt (Y.load T73 rfl (Ent.at 3 rfl (Up.cellIs _ _ _) (blk_cell rfl))) rfl ?_ | refine OL.qt (Y.load T73 rfl (Ent.at 4 rfl (Up.cellIs _ _ _) (blk_cell rfl))) rfl ?_ | refine OL.qt (Y.load T73 rfl (Ent.at 5 rfl (Up.cellIs _ _ _) (blk_cell rfl))) rfl ?_
  refine OL.qt (Y.lenSl Try.underlying73 rfl) rfl ?_
  refine OL.nil ?_
  refine EX.tail ?_
  first | refine OL.mapUpdate 0 rfl Try.underlying72 (KeyT.string Try.underlying9) rfl rfl rfl ⟨rfl, rfl, ?_⟩ | refine OL.mapUpdate 1 rfl Try.underlying72 (KeyT.string Try.underlying9) rfl rfl rfl ⟨rfl, rfl, ?_⟩ | refine OL.mapUpdate 2 rfl Try.underlying72 (KeyT.string Try.underlying9) rfl rfl rfl ⟨rfl, rfl, ?_⟩ | refine OL.mapUpdate 3 rfl Try.underlying72 (KeyT.string Try.underlying9) rfl rfl rfl ⟨rfl, rfl, ?_⟩ | refine OL.mapUpdate 4 rfl Try.underlying72 (KeyT.string Try.underlying9) rfl rfl rfl ⟨rfl, rfl, ?_⟩ | refine OL.mapUpdate 5 rfl Try.underlying72 (KeyT.string Try.underlying9) rfl rfl rfl ⟨rfl, rfl, ?_⟩
  refine OL.nil ?_
  refine EX.seq ?_
  refine CW.seq ?_
  refine CW.region ?_
  refine OL.q (Y.move rfl) rfl ?_
  refine OL.q (Y.move rfl) rfl ?_
  refine OL.q (Y.nilCheck rfl) rfl ?_
  refine OL.q (Y.field L75_0 rfl) rfl ?_
  first | refine OL.q (Y.load T73 rfl (Ent.at 0 rfl (Up.cellIs _ _ _) (blk_cell rfl))) rfl ?_ | refine OL.q (Y.load T73 rfl (Ent.at 1 rfl (Up.cellIs _ _ _) (blk_cell rfl))) rfl ?_ | refine OL.q (Y.load T73 rfl (Ent.at 2 rfl (Up.cellIs _ _ _) (blk_cell rfl))) rfl ?_ | refine OL.q (Y.load T73 rfl (Ent.at 3 rfl (Up.cellIs _ _ _) (blk_cell rfl))) rfl ?_ | refine OL.q (Y.load T73 rfl (Ent.at 4 rfl (Up.cellIs _ _ _) (blk_cell rfl))) rfl ?_ | refine OL.q (Y.load T73 rfl (Ent.at 5 rfl (Up.cellIs _ _ _) (blk_cell rfl))) rfl ?_
  refine OL.q (Y.move rfl) rfl ?_
  refine OL.q (Y.move rfl) rfl ?_
  refine OL.q (Y.build B77 rfl rfl) rfl ?_
  refine OL.buildSlice ([[.string s, .int .i64 x]]) Try.underlying73 C77 (by decide) rfl (by decide) rfl rfl rfl (fun b37 => ⟨rfl, rfl, ?_⟩)
  first | refine OL.append _ 0 rfl Try.underlying73 E77 rfl rfl (Ent.at 1 rfl (Up.rd _ _ _ _) row_rd) rfl (by omega) (by omega) rfl (fun a38 c38 => ⟨rfl, rfl, ?_⟩) | refine OL.append _ 0 rfl Try.underlying73 E77 rfl rfl (Ent.at 2 rfl (Up.rd _ _ _ _) row_rd) rfl (by omega) (by omega) rfl (fun a38 c38 => ⟨rfl, rfl, ?_⟩) | refine OL.append _ 0 rfl Try.underlying73 E77 rfl rfl (Ent.at 3 rfl (Up.rd _ _ _ _) row_rd) rfl (by omega) (by omega) rfl (fun a38 c38 => ⟨rfl, rfl, ?_⟩) | refine OL.append _ 0 rfl Try.underlying73 E77 rfl rfl (Ent.at 4 rfl (Up.rd _ _ _ _) row_rd) rfl (by omega) (by omega) rfl (fun a38 c38 => ⟨rfl, rfl, ?_⟩) | refine OL.append _ 0 rfl Try.underlying73 E77 rfl rfl (Ent.at 5 rfl (Up.rd _ _ _ _) row_rd) rfl (by omega) (by omega) rfl (fun a38 c38 => ⟨rfl, rfl, ?_⟩) | refine OL.append _ 1 rfl Try.underlying73 E77 rfl rfl (Ent.at 0 rfl (Up.rd _ _ _ _) row_rd) rfl (by omega) (by omega) rfl (fun a38 c38 => ⟨rfl, rfl, ?_⟩) | refine OL.append _ 1 rfl Try.underlying73 E77 rfl rfl (Ent.at 2 rfl (Up.rd _ _ _ _) row_rd) rfl (by omega) (by omega) rfl (fun a38 c38 => ⟨rfl, rfl, ?_⟩) | refine OL.append _ 1 rfl Try.underlying73 E77 rfl rfl (Ent.at 3 rfl (Up.rd _ _ _ _) row_rd) rfl (by omega) (by omega) rfl (fun a38 c38 => ⟨rfl, rfl, ?_⟩) | refine OL.append _ 1 rfl Try.underlying73 E77 rfl rfl (Ent.at 4 rfl (Up.rd _ _ _ _) row_rd) rfl (by omega) (by omega) rfl (fun a38 c38 => ⟨rfl, rfl, ?_⟩) | refine OL.append _ 1 rfl Try.underlying73 E77 rfl rfl (Ent.at 5 rfl (Up.rd _ _ _ _) row_rd) rfl (by omega) (by omega) rfl (fun a38 c38 => ⟨rfl, rfl, ?_⟩) | refine OL.append _ 2 rfl Try.underlying73 E77 rfl rfl (Ent.at 0 rfl (Up.rd _ _ _ _) row_rd) rfl (by omega) (by omega) rfl (fun a38 c38 => ⟨rfl, rfl, ?_⟩) | refine OL.append _ 2 rfl Try.underlying73 E77 rfl rfl (Ent.at 1 rfl (Up.rd _ _ _ _) row_rd) rfl (by omega) (by omega) rfl (fun a38 c38 => ⟨rfl, rfl, ?_⟩) | refine OL.append _ 2 rfl Try.underlying73 E77 rfl rfl (Ent.at 3 rfl (Up.rd _ _ _ _) row_rd) rfl (by omega) (by omega) rfl (fun a38 c38 => ⟨rfl, rfl, ?_⟩) | refine OL.append _ 2 rfl Try.underlying73 E77 rfl rfl (Ent.at 4 rfl (Up.rd _ _ _ _) row_rd) rfl (by omega) (by omega) rfl (fun a38 c38 => ⟨rfl, rfl, ?_⟩) | refine OL.append _ 2 rfl Try.underlying73 E77 rfl rfl (Ent.at 5 rfl (Up.rd _ _ _ _) row_rd) rfl (by omega) (by omega) rfl (fun a38 c38 => ⟨rfl, rfl, ?_⟩) | refine OL.append _ 3 rfl Try.underlying73 E77 rfl rfl (Ent.at 0 rfl (Up.rd _ _ _ _) row_rd) rfl (by omega) (by omega) rfl (fun a38 c38 => ⟨rfl, rfl, ?_⟩) | refine OL.append _ 3 rfl Try.underlying73 E77 rfl rfl (Ent.at 1 rfl (Up.rd _ _ _ _) row_rd) rfl (by omega) (by omega) rfl (fun a38 c38 => ⟨rfl, rfl, ?_⟩) | refine OL.append _ 3 rfl Try.underlying73 E77 rfl rfl (Ent.at 2 rfl (Up.rd _ _ _ _) row_rd) rfl (by omega) (by omega) rfl (fun a38 c38 => ⟨rfl, rfl, ?_⟩) | refine OL.append _ 3 rfl Try.underlying73 E77 rfl rfl (Ent.at 4 rfl (Up.rd _ _ _ _) row_rd) rfl (by omega) (by omega) rfl (fun a38 c38 => ⟨rfl, rfl, ?_⟩) | refine OL.append _ 3 rfl Try.underlying73 E77 rfl rfl (Ent.at 5 rfl (Up.rd _ _ _ _) row_rd) rfl (by omega) (by omega) rfl (fun a38 c38 => ⟨rfl, rfl, ?_⟩) | refine OL.append _ 4 rfl Try.underlying73 E77 rfl rfl (Ent.at 0 rfl (Up.rd _ _ _ _) row_rd) rfl (by omega) (by omega) rfl (fun a38 c38 => ⟨rfl, rfl, ?_⟩) | refine OL.append _ 4 rfl Try.underlying73 E77 rfl rfl (Ent.at 1 rfl (Up.rd _ _ _ _) row_rd) rfl (by omega) (by omega) rfl (fun a38 c38 => ⟨rfl, rfl, ?_⟩) | refine OL.append _ 4 rfl Try.underlying73 E77 rfl rfl (Ent.at 2 rfl (Up.rd _ _ _ _) row_rd) rfl (by omega) (by omega) rfl (fun a38 c38 => ⟨rfl, rfl, ?_⟩) | refine OL.append _ 4 rfl Try.underlying73 E77 rfl rfl (Ent.at 3 rfl (Up.rd _ _ _ _) row_rd) rfl (by omega) (by omega) rfl (fun a38 c38 => ⟨rfl, rfl, ?_⟩) | refine OL.append _ 4 rfl Try.underlying73 E77 rfl rfl (Ent.at 5 rfl (Up.rd _ _ _ _) row_rd) rfl (by omega) (by omega) rfl (fun a38 c38 => ⟨rfl, rfl, ?_⟩) | refine OL.append _ 5 rfl Try.underlying73 E77 rfl rfl (Ent.at 0 rfl (Up.rd _ _ _ _) row_rd) rfl (by omega) (by omega) rfl (fun a38 c38 => ⟨rfl, rfl, ?_⟩) | refine OL.append _ 5 rfl Try.underlying73 E77 rfl rfl (Ent.at 1 rfl (Up.rd _ _ _ _) row_rd) rfl (by omega) (by omega) rfl (fun a38 c38 => ⟨rfl, rfl, ?_⟩) | refine OL.append _ 5 rfl Try.underlying73 E77 rfl rfl (Ent.at 2 rfl (Up.rd _ _ _ _) row_rd) rfl (by omega) (by omega) rfl (fun a38 c38 => ⟨rfl, rfl, ?_⟩) | refine OL.append _ 5 rfl Try.underlying73 E77 rfl rfl (Ent.at 3 rfl (Up.rd _ _ _ _) row_rd) rfl (by omega) (by omega) rfl (fun a38 c38 => ⟨rfl, rfl, ?_⟩) | refine OL.append _ 5 rfl Try.underlying73 E77 rfl rfl (Ent.at 4 rfl (Up.rd _ _ _ _) row_rd) rfl (by omega) (by omega) rfl (fun a38 c38 => ⟨rfl, rfl, ?_⟩)
  refine OL.q (Y.nilCheck rfl) rfl ?_
  refine OL.q (Y.field L75_0 rfl) rfl ?_
  first | refine OL.store 0 rfl C73 rfl rfl rfl rfl rfl ⟨rfl, rfl, ?_⟩ | refine OL.store 1 rfl C73 rfl rfl rfl rfl rfl ⟨rfl, rfl, ?_⟩ | refine OL.store 2 rfl C73 rfl rfl rfl rfl rfl ⟨rfl, rfl, ?_⟩ | refine OL.store 3 rfl C73 rfl rfl rfl rfl rfl ⟨rfl, rfl, ?_⟩ | refine OL.store 4 rfl C73 rfl rfl rfl rfl rfl ⟨rfl, rfl, ?_⟩ | refine OL.store 5 rfl C73 rfl rfl rfl rfl rfl ⟨rfl, rfl, ?_⟩
  refine OL.nil ?_
  refine EX.seq ?_
  refine CW.seq ?_
  refine CW.region ?_
  refine OL.q (Y.assign rfl) rfl ?_
  refine OL.nil ?_
  refine EX.seq ?_
  refine CW.ret ?_
  refine EX.read (fun _ : Unit => True) (fun _ => [scopeAt t ⟨S.ents ++ [(s, x)], S.levels⟩]) (fun h hs => ⟨(), trivial, scope_shut (S := ⟨S.ents ++ [(s, x)], S.levels⟩) ⟨a38, v.n + 1, c38, v.m, v.la, v.ln, v.lc⟩ (ok_bind hn hk) h ?_⟩) (fun _ _ => ?_)
  · have h2 := hs.picked (is := [0, 1, 2, 3]) rfl
    have e5 : placesFrom 0 (S.ents ++ [(s, x)]) = putKey s (.int .i64 v.n) (placesFrom 0 S.ents) := by rw [← places_snoc s x S.ents 0 hk, e1]; simp
    have e6 : (S.ents ++ [(s, x)]).map entCells = S.ents.map entCells ++ [[.string s, .int .i64 x]] := by simp [entCells]
    unfold scopeL
    rw [e5, e6]
    exact h2
  · exact EX.fin1 [0] rfl rfl rfl ⟨rfl, rfl⟩


/-- Push, as the table answers it. -/
def Scope.push (S : Scope) (n : Int) : Int × Scope := if n < 0 then (1, S) else if 1000 - (S.levels.length : Int) < n then (4, S) else (0, ⟨S.ents, S.levels ++ List.replicate n.toNat S.ents.length⟩)
theorem ok_push {S : Scope} (m : Nat) (h : S.Ok) : (⟨S.ents, S.levels ++ List.replicate m S.ents.length⟩ : Scope).Ok where
  nodup := h.nodup
  rising := by
    rw [List.pairwise_append]
    refine ⟨h.rising, ?_, fun a ha b hb => ?_⟩
    · exact List.pairwise_replicate.2 (.inr (Nat.le_refl _))
    · rw [List.eq_of_mem_replicate hb]; exact h.within a ha
  within l hl := by
    rcases List.mem_append.1 hl with hl | hl
    · exact h.within l hl
    · rw [List.eq_of_mem_replicate hl]; exact Nat.le_refl _


theorem push_any (t : Nat) (S : Scope) (n : Int) (hS : S.levels.length ≤ 1000) (hlo : -9223372036854775808 ≤ n) (hhi : n ≤ 9223372036854775807) :
    FS Try.prog 10 [.pointer (some ⟨t, 0, none⟩), .int .i64 n] (nothing) [scopeAt t S] (fun v H => v = .int .i64 (S.push n).1 ∧ H = [scopeAt t (S.push n).2]) := by
  refine FS.intro (N := 33) Try.func10 rfl rfl rfl (fun F w0 hF => ?_)
  refine CW.read _ (scopeL t S) scope_open ?_
  rintro v ⟨hn, e1, e2, e3, e4⟩
  refine CW.seq ?_
  refine CW.region ?_
  refine OL.q (Y.assign rfl) rfl ?_
  refine OL.nil ?_
  refine EX.seq ?_
  refine CW.seq ?_
  refine CW.seq ?_
  refine CW.region ?_
  refine OL.q (Y.move rfl) rfl ?_
  refine OL.q (Y.lss rfl rfl) rfl ?_
  refine OL.nil ?_
  refine EX.seq ?_
  refine CW.cond rfl (fun h0 => ?_) (fun h0 => ?_)
  · repeat (first | replace h0 := yes h0 | replace h0 := no h0 | replace h0 := nyes h0 | replace h0 := nno h0)
    refine CW.seq ?_
    refine CW.region ?_
    refine OL.q (Y.assign rfl) rfl ?_
    refine OL.nil ?_
    refine EX.seq ?_
    refine CW.ret ?_
    refine EX.retT ?_
    have he : S.push n = (1, S) := by simp [Scope.push, h0]
    refine EX.read (fun _ : Unit => True) (fun _ => [scopeAt t S]) (fun h hs => ⟨(), trivial, scope_shut v hn h (hs.picked (is := [0, 1, 2, 3]) rfl)⟩) (fun _ _ => ?_)
    exact EX.fin1 [0] rfl rfl rfl (by rw [he]; exact ⟨rfl, rfl⟩)
  · repeat (first | replace h0 := yes h0 | replace h0 := no h0 | replace h0 := nyes h0 | replace h0 := nno h0)
    refine CW.skip ?_
    refine EX.seq ?_
    refine CW.seq ?_
    refine CW.seq ?_
    refine CW.region ?_
    refine OL.q (Y.move rfl) rfl ?_
    refine OL.q (Y.move rfl) rfl ?_
    refine OL.q (Y.nilCheck rfl) rfl ?_
    refine OL.q (Y.field L75_2 rfl) rfl ?_
    first | refine OL.q (Y.load T28 rfl (Ent.at 0 rfl (Up.cellIs _ _ _) (blk_cell rfl))) rfl ?_ | refine OL.q (Y.load T28 rfl (Ent.at 1 rfl (Up.cellIs _ _ _) (blk_cell rfl))) rfl ?_ | refine OL.q (Y.load T28 rfl (Ent.at 2 rfl (Up.cellIs _ _ _) (blk_cell rfl))) rfl ?_ | refine OL.q (Y.load T28 rfl (Ent.at 3 rfl (Up.cellIs _ _ _) (blk_cell rfl))) rfl ?_ | refine OL.q (Y.load T28 rfl (Ent.at 4 rfl (Up.cellIs _ _ _) (blk_cell rfl))) rfl ?_ | refine OL.q (Y.load T28 rfl (Ent.at 5 rfl (Up.cellIs _ _ _) (blk_cell rfl))) rfl ?_
    refine OL.q (Y.lenSl Try.underlying28 rfl) rfl ?_
    refine OL.q (Y.sub rfl rfl (by omega)) rfl ?_
    refine OL.q (Y.gtr rfl rfl) rfl ?_
    refine OL.nil ?_
    refine EX.seq ?_
    refine CW.cond rfl (fun h1 => ?_) (fun h1 => ?_)
    · repeat (first | replace h1 := yes h1 | replace h1 := no h1 | replace h1 := nyes h1 | replace h1 := nno h1)
      refine CW.seq ?_
      refine CW.region ?_
      refine OL.q (Y.assign rfl) rfl ?_
      refine OL.nil ?_
      refine EX.seq ?_
      refine CW.ret ?_
      refine EX.retT ?_
      have he : S.push n = (4, S) := by rw [e2] at h1; simp only [Scope.push, if_neg h0, if_pos h1]
      refine EX.read (fun _ : Unit => True) (fun _ => [scopeAt t S]) (fun h hs => ⟨(), trivial, scope_shut v hn h (hs.picked (is := [0, 1, 2, 3]) rfl)⟩) (fun _ _ => ?_)
      exact EX.fin1 [0] rfl rfl rfl (by rw [he]; exact ⟨rfl, rfl⟩)
    · repeat (first | replace h1 := yes h1 | replace h1 := no h1 | replace h1 := nyes h1 | replace h1 := nno h1)
      obtain ⟨m, rfl⟩ := Int.eq_ofNat_of_zero_le (show 0 ≤ n by omega)
      refine CW.skip ?_
      refine EX.seq ?_
      refine CW.seq ?_
      refine CW.seq ?_
      refine CW.region ?_
      refine OL.q (Y.move rfl) rfl ?_
      refine OL.q (Y.move rfl) rfl ?_
      refine OL.nil ?_
      refine EX.seq ?_
      refine CW.block ?_
      refine CW.loop (α := Nat × Option Addr × Nat) ⟨fun x => x.1 ≤ m, fun x => [(0, .pointer (some ⟨t, 0, none⟩)), (15, .int .i64 m), (16, .int .i64 x.1)],
          fun x => [blk t [.slice v.a v.n v.c, .map (some v.m), .slice x.2.1 (v.ln + x.1) x.2.2] 75, row v.a v.n v.c 77 2 (S.ents.map entCells), mapc Value.string v.m (placesFrom 0 S.ents),
            row x.2.1 (v.ln + x.1) x.2.2 3 1 ((S.levels ++ List.replicate x.1 v.n).map numCells)]⟩
        (fun x => m - x.1) (0, v.la, v.lc) [0, 1, 2, 3] (Nat.zero_le _) ⟨rfl, rfl, rfl, trivial⟩ rfl (by simp [scopeL, pick, nth]) ?_
      rintro ⟨k, la, lc⟩ hk
      dsimp only at hk ⊢
      refine CW.seq ?_
      refine CW.region ?_
      refine OL.q (Y.lss rfl rfl) rfl ?_
      refine OL.nil ?_
      refine EX.seq ?_
      refine CW.seq ?_
      refine CW.cond rfl (fun h2 => ?_) (fun h2 => ?_)
      · repeat (first | replace h2 := yes h2 | replace h2 := no h2 | replace h2 := nyes h2 | replace h2 := nno h2)
        refine CW.skip ?_
        refine EX.seq ?_
        refine CW.seq ?_
        refine CW.block ?_
        refine CW.drawn [(true, 0), (true, 1), (true, 2), (true, 3), (true, 4), (true, 5), (true, 6), (true, 7), (true, 8), (true, 9), (false, 10), (false, 11)] [12, 13, 14] [0] mixed (by kernel_rfl) (by repeat (first | exact PanicOk.body | refine PanicOk.then ?_ | refine PanicOk.block ?_)) (by kernel_rfl) rfl rfl rfl rfl ?_
        refine OL.qt (Y.move rfl) rfl ?_
        refine OL.qt (Y.move rfl) rfl ?_
        refine OL.qt (Y.nilCheck rfl) rfl ?_
        refine OL.qt (Y.field L75_2 rfl) rfl ?_
        first | refine OL.qt (Y.load T28 rfl (Ent.at 0 rfl (Up.cellIs _ _ _) (blk_cell rfl))) rfl ?_ | refine OL.qt (Y.load T28 rfl (Ent.at 1 rfl (Up.cellIs _ _ _) (blk_cell rfl))) rfl ?_ | refine OL.qt (Y.load T28 rfl (Ent.at 2 rfl (Up.cellIs _ _ _) (blk_cell rfl))) rfl ?_ | refine OL.qt (Y.load T28 rfl (Ent.at 3 rfl (Up.cellIs _ _ _) (blk_cell rfl))) rfl ?_ | refine OL.qt (Y.load T28 rfl (Ent.at 4 rfl (Up.cellIs _ _ _) (blk_cell rfl))) rfl ?_ | refine OL.qt (Y.load T28 rfl (Ent.at 5 rfl (Up.cellIs _ _ _) (blk_cell rfl))) rfl ?_
        refine OL.qt (Y.move rfl) rfl ?_
        refine OL.qt (Y.nilCheck rfl) rfl ?_
        refine OL.qt (Y.field L75_0 rfl) rfl ?_
        first | refine OL.qt (Y.load T73 rfl (Ent.at 0 rfl (Up.cellIs _ _ _) (blk_cell rfl))) rfl ?_ | refine OL.qt (Y.load T73 rfl (Ent.at 1 rfl (Up.cellIs _ _ _) (blk_cell rfl))) rfl ?_ | refine OL.qt (Y.load T73 rfl (Ent.at 2 rfl (Up.cellIs _ _ _) (blk_cell rfl))) rfl ?_ | refine OL.qt (Y.load T73 rfl (Ent.at 3 rfl (Up.cellIs _ _ _) (blk_cell rfl))) rfl ?_ | refine OL.qt (Y.load T73 rfl (Ent.at 4 rfl (Up.cellIs _ _ _) (blk_cell rfl))) rfl ?_ | refine OL.qt (Y.load T73 rfl (Ent.at 5 rfl (Up.cellIs _ _ _) (blk_cell rfl))) rfl ?_
        refine OL.qt (Y.lenSl Try.underlying73 rfl) rfl ?_
        refine OL.buildSlice ([[.int .i64 v.n]]) Try.underlying28 C3 (by decide) rfl (by decide) rfl rfl rfl (fun b28 => ⟨rfl, rfl, ?_⟩)
        first | refine OL.append _ 0 rfl Try.underlying28 E3 rfl rfl (Ent.at 1 rfl (Up.rd _ _ _ _) row_rd) rfl (by omega) (by omega) rfl (fun a29 c29 => ⟨rfl, rfl, ?_⟩) | refine OL.append _ 0 rfl Try.underlying28 E3 rfl rfl (Ent.at 2 rfl (Up.rd _ _ _ _) row_rd) rfl (by omega) (by omega) rfl (fun a29 c29 => ⟨rfl, rfl, ?_⟩) | refine OL.append _ 0 rfl Try.underlying28 E3 rfl rfl (Ent.at 3 rfl (Up.rd _ _ _ _) row_rd) rfl (by omega) (by omega) rfl (fun a29 c29 => ⟨rfl, rfl, ?_⟩) | refine OL.append _ 0 rfl Try.underlying28 E3 rfl rfl (Ent.at 4 rfl (Up.rd _ _ _ _) row_rd) rfl (by omega) (by omega) rfl (fun a29 c29 => ⟨rfl, rfl, ?_⟩) | refine OL.append _ 0 rfl Try.underlying28 E3 rfl rfl (Ent.at 5 rfl (Up.rd _ _ _ _) row_rd) rfl (by omega) (by omega) rfl (fun a29 c29 => ⟨rfl, rfl, ?_⟩) | refine OL.append _ 1 rfl Try.underlying28 E3 rfl rfl (Ent.at 0 rfl (Up.rd _ _ _ _) row_rd) rfl (by omega) (by omega) rfl (fun a29 c29 => ⟨rfl, rfl, ?_⟩) | refine OL.append _ 1 rfl Try.underlying28 E3 rfl rfl (Ent.at 2 rfl (Up.rd _ _ _ _) row_rd) rfl (by omega) (by omega) rfl (fun a29 c29 => ⟨rfl, rfl, ?_⟩) | refine OL.append _ 1 rfl Try.underlying28 E3 rfl rfl (Ent.at 3 rfl (Up.rd _ _ _ _) row_rd) rfl (by omega) (by omega) rfl (fun a29 c29 => ⟨rfl, rfl, ?_⟩) | refine OL.append _ 1 rfl Try.underlying28 E3 rfl rfl (Ent.at 4 rfl (Up.rd _ _ _ _) row_rd) rfl (by omega) (by omega) rfl (fun a29 c29 => ⟨rfl, rfl, ?_⟩) | refine OL.append _ 1 rfl Try.underlying28 E3 rfl rfl (Ent.at 5 rfl (Up.rd _ _ _ _) row_rd) rfl (by omega) (by omega) rfl (fun a29 c29 => ⟨rfl, rfl, ?_⟩) | refine OL.append _ 2 rfl Try.underlying28 E3 rfl rfl (Ent.at 0 rfl (Up.rd _ _ _ _) row_rd) rfl (by omega) (by omega) rfl (fun a29 c29 => ⟨rfl, rfl, ?_⟩) | refine OL.append _ 2 rfl Try.underlying28 E3 rfl rfl (Ent.at 1 rfl (Up.rd _ _ _ _) row_rd) rfl (by omega) (by omega) rfl (fun a29 c29 => ⟨rfl, rfl, ?_⟩) | refine OL.append _ 2 rfl Try.underlying28 E3 rfl rfl (Ent.at 3 rfl (Up.rd _ _ _ _) row_rd) rfl (by omega) (by omega) rfl (fun a29 c29 => ⟨rfl, rfl, ?_⟩) | refine OL.append _ 2 rfl Try.underlying28 E3 rfl rfl (Ent.at 4 rfl (Up.rd _ _ _ _) row_rd) rfl (by omega) (by omega) rfl (fun a29 c29 => ⟨rfl, rfl, ?_⟩) | refine OL.append _ 2 rfl Try.underlying28 E3 rfl rfl (Ent.at 5 rfl (Up.rd _ _ _ _) row_rd) rfl (by omega) (by omega) rfl (fun a29 c29 => ⟨rfl, rfl, ?_⟩) | refine OL.append _ 3 rfl Try.underlying28 E3 rfl rfl (Ent.at 0 rfl (Up.rd _ _ _ _) row_rd) rfl (by omega) (by omega) rfl (fun a29 c29 => ⟨rfl, rfl, ?_⟩) | refine OL.append _ 3 rfl Try.underlying28 E3 rfl rfl (Ent.at 1 rfl (Up.rd _ _ _ _) row_rd) rfl (by omega) (by omega) rfl (fun a29 c29 => ⟨rfl, rfl, ?_⟩) | refine OL.append _ 3 rfl Try.underlying28 E3 rfl rfl (Ent.at 2 rfl (Up.rd _ _ _ _) row_rd) rfl (by omega) (by omega) rfl (fun a29 c29 => ⟨rfl, rfl, ?_⟩) | refine OL.append _ 3 rfl Try.underlying28 E3 rfl rfl (Ent.at 4 rfl (Up.rd _ _ _ _) row_rd) rfl (by omega) (by omega) rfl (fun a29 c29 => ⟨rfl, rfl, ?_⟩) | refine OL.append _ 3 rfl Try.underlying28 E3 rfl rfl (Ent.at 5 rfl (Up.rd _ _ _ _) row_rd) rfl (by omega) (by omega) rfl (fun a29 c29 => ⟨rfl, rfl, ?_⟩) | refine OL.append _ 4 rfl Try.underlying28 E3 rfl rfl (Ent.at 0 rfl (Up.rd _ _ _ _) row_rd) rfl (by omega) (by omega) rfl (fun a29 c29 => ⟨rfl, rfl, ?_⟩) | refine OL.append _ 4 rfl Try.underlying28 E3 rfl rfl (Ent.at 1 rfl (Up.rd _ _ _ _) row_rd) rfl (by omega) (by omega) rfl (fun a29 c29 => ⟨rfl, rfl, ?_⟩) | refine OL.append _ 4 rfl Try.underlying28 E3 rfl rfl (Ent.at 2 rfl (Up.rd _ _ _ _) row_rd) rfl (by omega) (by omega) rfl (fun a29 c29 => ⟨rfl, rfl, ?_⟩) | refine OL.append _ 4 rfl Try.underlying28 E3 rfl rfl (Ent.at 3 rfl (Up.rd _ _ _ _) row_rd) rfl (by omega) (by omega) rfl (fun a29 c29 => ⟨rfl, rfl, ?_⟩) | refine OL.append _ 4 rfl Try.underlying28 E3 rfl rfl (Ent.at 5 rfl (Up.rd _ _ _ _) row_rd) rfl (by omega) (by omega) rfl (fun a29 c29 => ⟨rfl, rfl, ?_⟩) | refine OL.append _ 5 rfl Try.underlying28 E3 rfl rfl (Ent.at 0 rfl (Up.rd _ _ _ _) row_rd) rfl (by omega) (by omega) rfl (fun a29 c29 => ⟨rfl, rfl, ?_⟩) | refine OL.append _ 5 rfl Try.underlying28 E3 rfl rfl (Ent.at 1 rfl (Up.rd _ _ _ _) row_rd) rfl (by omega) (by omega) rfl (fun a29 c29 => ⟨rfl, rfl, ?_⟩) | refine OL.append _ 5 rfl Try.underlying28 E3 rfl rfl (Ent.at 2 rfl (Up.rd _ _ _ _) row_rd) rfl (by omega) (by omega) rfl (fun a29 c29 => ⟨rfl, rfl, ?_⟩) | refine OL.append _ 5 rfl Try.underlying28 E3 rfl rfl (Ent.at 3 rfl (Up.rd _ _ _ _) row_rd) rfl (by omega) (by omega) rfl (fun a29 c29 => ⟨rfl, rfl, ?_⟩) | refine OL.append _ 5 rfl Try.underlying28 E3 rfl rfl (Ent.at 4 rfl (Up.rd _ _ _ _) row_rd) rfl (by omega) (by omega) rfl (fun a29 c29 => ⟨rfl, rfl, ?_⟩)
        refine OL.nil ?_
        refine EX.tail ?_
        refine OL.q (Y.nilCheck rfl) rfl ?_
        refine OL.q (Y.field L75_2 rfl) rfl ?_
        first | refine OL.store 0 rfl C28 rfl rfl rfl rfl rfl ⟨rfl, rfl, ?_⟩ | refine OL.store 1 rfl C28 rfl rfl rfl rfl rfl ⟨rfl, rfl, ?_⟩ | refine OL.store 2 rfl C28 rfl rfl rfl rfl rfl ⟨rfl, rfl, ?_⟩ | refine OL.store 3 rfl C28 rfl rfl rfl rfl rfl ⟨rfl, rfl, ?_⟩ | refine OL.store 4 rfl C28 rfl rfl rfl rfl rfl ⟨rfl, rfl, ?_⟩ | refine OL.store 5 rfl C28 rfl rfl rfl rfl rfl ⟨rfl, rfl, ?_⟩
        refine OL.nil ?_
        refine EX.norB ?_
        refine EX.seq ?_
        refine CW.region ?_
        first | refine OL.q (Y.add1 rfl rfl rfl (by omega)) rfl ?_ | refine OL.q (Y.addN rfl rfl (by omega)) rfl ?_ | refine OL.q (Y.add rfl rfl (by omega)) rfl ?_
        refine OL.q (Y.move rfl) rfl ?_
        refine OL.nil ?_
        refine EX.next (k + 1, a29, c29) [0, 1, 2, 3] (show k + 1 ≤ m by omega) (show m - (k + 1) < m - k by omega) ⟨rfl, rfl, rfl, trivial⟩ rfl ?_
        show [_, _, _, _] = [_, _, _, _]
        simp [List.replicate_succ', numCells, Nat.add_assoc]
      · repeat (first | replace h2 := yes h2 | replace h2 := no h2 | replace h2 := nyes h2 | replace h2 := nno h2)
        refine CW.exit ?_
        refine EX.exitT ?_
        refine EX.exitT ?_
        refine EX.exitB ?_
        refine EX.seq ?_
        refine CW.seq ?_
        refine CW.region ?_
        refine OL.q (Y.assign rfl) rfl ?_
        refine OL.nil ?_
        refine EX.seq ?_
        refine CW.ret ?_
        have hkm : k = m := by omega
        subst hkm
        have he : S.push (k : Int) = (0, ⟨S.ents, S.levels ++ List.replicate k S.ents.length⟩) := by
          rw [e2] at h1
          simp only [Scope.push, if_neg h0, if_neg h1, Int.toNat_natCast]
        refine EX.read (fun _ : Unit => True) (fun _ => [scopeAt t ⟨S.ents, S.levels ++ List.replicate k S.ents.length⟩]) (fun h hs => ⟨(), trivial, scope_shut (S := ⟨S.ents, S.levels ++ List.replicate k S.ents.length⟩) ⟨v.a, v.n, v.c, v.m, la, v.ln + k, lc⟩ (ok_push k hn) h (by rw [← e1]; exact hs.picked (is := [0, 1, 2, 3]) rfl)⟩) (fun _ _ => ?_)
        exact EX.fin1 [0] rfl rfl rfl (by rw [he]; exact ⟨rfl, rfl⟩)


/-- Pop, as the table answers it. -/
def Scope.pop (S : Scope) (n : Int) : Int × Scope := if n < 0 then (1, S) else if (S.levels.length : Int) < n then (2, S) else if n = 0 then (0, S) else
  (0, ⟨S.ents.take (S.levels.getD (S.levels.length - n.toNat) 0), S.levels.take (S.levels.length - n.toNat)⟩)
theorem ok_pop {S : Scope} {j f : Nat} (h : S.Ok) (hf : S.levels[j]? = some f) : (⟨S.ents.take f, S.levels.take j⟩ : Scope).Ok where
  nodup := by rw [List.map_take]; exact h.nodup.sublist (List.take_sublist _ _)
  rising := h.rising.sublist (List.take_sublist _ _)
  within l hl := by
    have h1 := h.within l (List.take_subset _ _ hl)
    obtain ⟨hj, hjf⟩ := List.getElem?_eq_some_iff.1 hf
    obtain ⟨i, hi, rfl⟩ := List.mem_take_iff_getElem.1 hl
    have h2 : S.levels[i]'(by omega) ≤ S.levels[j] := List.pairwise_iff_getElem.1 h.rising i j (by omega) hj (by omega)
    rw [hjf] at h2
    have h3 := h.within f (hjf ▸ List.getElem_mem hj)
    rw [List.length_take]
    omega
/-- Names struck out of a map, one by one. -/
def strike (M : List (ByteArray × Value)) (l : List (ByteArray × Int)) : List (ByteArray × Value) := l.foldl (fun m p => delKey p.1 m) M
theorem strike_snoc (M : List (ByteArray × Value)) (l : List (ByteArray × Int)) (p : ByteArray × Int) : strike M (l ++ [p]) = delKey p.1 (strike M l) := by simp [strike]
theorem places_keys : ∀ (l : List (ByteArray × Int)) (n : Nat), (placesFrom n l).map Prod.fst = l.map Prod.fst
  | [], _ => rfl
  | p :: l, n => by simp [placesFrom, places_keys l]
theorem places_app : ∀ (l1 l2 : List (ByteArray × Int)) (n : Nat), placesFrom n (l1 ++ l2) = placesFrom n l1 ++ placesFrom (n + l1.length) l2
  | [], _, _ => by simp [placesFrom]
  | p :: l, l2, n => by
    simp only [placesFrom, List.cons_append, places_app l l2 (n + 1), List.length_cons]
    congr 3; omega
theorem delKey_mid {s : ByteArray} {v : Value} : ∀ {A B : List (ByteArray × Value)}, s ∉ A.map Prod.fst → delKey s (A ++ (s, v) :: B) = A ++ B
  | [], _, _ => by simp [delKey]
  | (x, u) :: A, B, h => by
    simp only [List.map_cons, List.mem_cons, not_or] at h
    simp [delKey, h.1, delKey_mid h.2]
theorem strike_all : ∀ (l2 : List (ByteArray × Int)) (A : List (ByteArray × Value)) (n : Nat), (∀ p ∈ l2, p.1 ∉ A.map Prod.fst) → strike (A ++ placesFrom n l2) l2 = A
  | [], A, _, _ => by simp [placesFrom, strike]
  | p :: l, A, n, h => by
    simp only [placesFrom, strike, List.foldl_cons]
    rw [delKey_mid (h p (by simp))]
    exact strike_all l A (n + 1) (fun q hq => h q (by simp [hq]))
theorem strike_pop {l : List (ByteArray × Int)} (hn : (l.map Prod.fst).Nodup) (f : Nat) : strike (placesFrom 0 l) (l.drop f) = placesFrom 0 (l.take f) := by
  have e : placesFrom 0 l = placesFrom 0 (l.take f) ++ placesFrom (0 + (l.take f).length) (l.drop f) := by rw [← places_app, List.take_append_drop]
  rw [e]
  refine strike_all _ _ _ fun p hp hm => ?_
  rw [places_keys] at hm
  have hn' : ((l.take f).map Prod.fst ++ (l.drop f).map Prod.fst).Nodup := by rw [← List.map_append, List.take_append_drop]; exact hn
  exact (List.nodup_append.1 hn').2.2 _ hm _ (List.mem_map_of_mem hp) rfl
theorem take_snoc {α : Type _} {l : List α} {k : Nat} {x : α} (h : l[k]? = some x) : l.take (k + 1) = l.take k ++ [x] := by
  rw [List.take_add_one, h]; rfl


theorem pop_any (t : Nat) (S : Scope) (n : Int) (hS : S.levels.length ≤ 1000) (hE : S.ents.length ≤ 1000000) :
    FS Try.prog 12 [.pointer (some ⟨t, 0, none⟩), .int .i64 n] (nothing) [scopeAt t S] (fun v H => v = .int .i64 (S.pop n).1 ∧ H = [scopeAt t (S.pop n).2]) := by
  refine FS.intro (N := 76) Try.func12 rfl rfl rfl (fun F w0 hF => ?_)
  refine CW.read _ (scopeL t S) scope_open ?_
  rintro v ⟨hn, e1, e2, e3, e4⟩
  refine CW.seq ?_
  refine CW.region ?_
  refine OL.q (Y.assign rfl) rfl ?_
  refine OL.nil ?_
  refine EX.seq ?_
  refine CW.seq ?_
  refine CW.seq ?_
  refine CW.region ?_
  refine OL.q (Y.move rfl) rfl ?_
  refine OL.q (Y.lss rfl rfl) rfl ?_
  refine OL.nil ?_
  refine EX.seq ?_
  refine CW.cond rfl (fun h0 => ?_) (fun h0 => ?_)
  · repeat (first | replace h0 := yes h0 | replace h0 := no h0 | replace h0 := nyes h0 | replace h0 := nno h0)
    refine CW.seq ?_
    refine CW.region ?_
    refine OL.q (Y.assign rfl) rfl ?_
    refine OL.nil ?_
    refine EX.seq ?_
    refine CW.ret ?_
    refine EX.retT ?_
    have he : S.pop n = (1, S) := by simp [Scope.pop, h0]
    refine EX.read (fun _ : Unit => True) (fun _ => [scopeAt t S]) (fun h hs => ⟨(), trivial, scope_shut v hn h (hs.picked (is := [0, 1, 2, 3]) rfl)⟩) (fun _ _ => ?_)
    exact EX.fin1 [0] rfl rfl rfl (by rw [he]; exact ⟨rfl, rfl⟩)
  · repeat (first | replace h0 := yes h0 | replace h0 := no h0 | replace h0 := nyes h0 | replace h0 := nno h0)
    refine CW.skip ?_
    refine EX.seq ?_
    refine CW.seq ?_
    refine CW.seq ?_
    refine CW.region ?_
    refine OL.q (Y.move rfl) rfl ?_
    refine OL.q (Y.move rfl) rfl ?_
    refine OL.q (Y.nilCheck rfl) rfl ?_
    refine OL.q (Y.field L75_2 rfl) rfl ?_
    first | refine OL.q (Y.load T28 rfl (Ent.at 0 rfl (Up.cellIs _ _ _) (blk_cell rfl))) rfl ?_ | refine OL.q (Y.load T28 rfl (Ent.at 1 rfl (Up.cellIs _ _ _) (blk_cell rfl))) rfl ?_ | refine OL.q (Y.load T28 rfl (Ent.at 2 rfl (Up.cellIs _ _ _) (blk_cell rfl))) rfl ?_ | refine OL.q (Y.load T28 rfl (Ent.at 3 rfl (Up.cellIs _ _ _) (blk_cell rfl))) rfl ?_ | refine OL.q (Y.load T28 rfl (Ent.at 4 rfl (Up.cellIs _ _ _) (blk_cell rfl))) rfl ?_ | refine OL.q (Y.load T28 rfl (Ent.at 5 rfl (Up.cellIs _ _ _) (blk_cell rfl))) rfl ?_
    refine OL.q (Y.lenSl Try.underlying28 rfl) rfl ?_
    refine OL.q (Y.gtr rfl rfl) rfl ?_
    refine OL.nil ?_
    refine EX.seq ?_
    refine CW.cond rfl (fun h1 => ?_) (fun h1 => ?_)
    · repeat (first | replace h1 := yes h1 | replace h1 := no h1 | replace h1 := nyes h1 | replace h1 := nno h1)
      refine CW.seq ?_
      refine CW.region ?_
      refine OL.q (Y.assign rfl) rfl ?_
      refine OL.nil ?_
      refine EX.seq ?_
      refine CW.ret ?_
      refine EX.retT ?_
      have he : S.pop n = (2, S) := by rw [e2] at h1; simp only [Scope.pop, if_neg h0, if_pos h1]
      refine EX.read (fun _ : Unit => True) (fun _ => [scopeAt t S]) (fun h hs => ⟨(), trivial, scope_shut v hn h (hs.picked (is := [0, 1, 2, 3]) rfl)⟩) (fun _ _ => ?_)
      exact EX.fin1 [0] rfl rfl rfl (by rw [he]; exact ⟨rfl, rfl⟩)
    · repeat (first | replace h1 := yes h1 | replace h1 := no h1 | replace h1 := nyes h1 | replace h1 := nno h1)
      refine CW.skip ?_
      refine EX.seq ?_
      refine CW.seq ?_
      refine CW.seq ?_
      refine CW.region ?_
      refine OL.q (Y.move rfl) rfl ?_
      refine OL.q (Y.eql rfl rfl) rfl ?_
      refine OL.nil ?_
      refine EX.seq ?_
      refine CW.cond rfl (fun h2 => ?_) (fun h2 => ?_)
      · repeat (first | replace h2 := yes h2 | replace h2 := no h2 | replace h2 := nyes h2 | replace h2 := nno h2)
        refine CW.seq ?_
        refine CW.region ?_
        refine OL.q (Y.assign rfl) rfl ?_
        refine OL.nil ?_
        refine EX.seq ?_
        refine CW.ret ?_
        refine EX.retT ?_
        have he : S.pop n = (0, S) := by rw [e2] at h1; simp only [Scope.pop, if_neg h0, if_neg h1, if_pos h2]
        refine EX.read (fun _ : Unit => True) (fun _ => [scopeAt t S]) (fun h hs => ⟨(), trivial, scope_shut v hn h (hs.picked (is := [0, 1, 2, 3]) rfl)⟩) (fun _ _ => ?_)
        exact EX.fin1 [0] rfl rfl rfl (by rw [he]; exact ⟨rfl, rfl⟩)
      · repeat (first | replace h2 := yes h2 | replace h2 := no h2 | replace h2 := nyes h2 | replace h2 := nno h2)
        obtain ⟨m, rfl⟩ := Int.eq_ofNat_of_zero_le (show 0 ≤ n by omega)
        have hj : S.levels.length - m < S.levels.length := by omega
        obtain ⟨j, hje⟩ : ∃ j, j = S.levels.length - m := ⟨_, rfl⟩
        rw [← hje] at hj
        obtain ⟨f, hf⟩ : ∃ f, S.levels[j]? = some f := ⟨_, List.getElem?_eq_getElem hj⟩
        have hfn : f ≤ S.ents.length := hn.within f (by obtain ⟨h, e⟩ := List.getElem?_eq_some_iff.1 hf; exact e ▸ List.getElem_mem h)
        refine CW.skip ?_
        refine EX.seq ?_
        refine CW.seq ?_
        refine CW.region ?_
        refine OL.q (Y.move rfl) rfl ?_
        refine OL.q (Y.nilCheck rfl) rfl ?_
        refine OL.q (Y.field L75_2 rfl) rfl ?_
        first | refine OL.q (Y.load T28 rfl (Ent.at 0 rfl (Up.cellIs _ _ _) (blk_cell rfl))) rfl ?_ | refine OL.q (Y.load T28 rfl (Ent.at 1 rfl (Up.cellIs _ _ _) (blk_cell rfl))) rfl ?_ | refine OL.q (Y.load T28 rfl (Ent.at 2 rfl (Up.cellIs _ _ _) (blk_cell rfl))) rfl ?_ | refine OL.q (Y.load T28 rfl (Ent.at 3 rfl (Up.cellIs _ _ _) (blk_cell rfl))) rfl ?_ | refine OL.q (Y.load T28 rfl (Ent.at 4 rfl (Up.cellIs _ _ _) (blk_cell rfl))) rfl ?_ | refine OL.q (Y.load T28 rfl (Ent.at 5 rfl (Up.cellIs _ _ _) (blk_cell rfl))) rfl ?_
        refine OL.q (Y.lenSl Try.underlying28 rfl) rfl ?_
        refine OL.q (Y.move rfl) rfl ?_
        refine OL.q (Y.sub rfl rfl (by omega)) rfl ?_
        refine OL.q (Y.assign rfl) rfl ?_
        refine OL.nil ?_
        refine EX.seq ?_
        refine CW.seq ?_
        refine CW.region ?_
        refine OL.q (Y.move rfl) rfl ?_
        refine OL.q (Y.nilCheck rfl) rfl ?_
        refine OL.q (Y.field L75_2 rfl) rfl ?_
        first | refine OL.q (Y.load T28 rfl (Ent.at 0 rfl (Up.cellIs _ _ _) (blk_cell rfl))) rfl ?_ | refine OL.q (Y.load T28 rfl (Ent.at 1 rfl (Up.cellIs _ _ _) (blk_cell rfl))) rfl ?_ | refine OL.q (Y.load T28 rfl (Ent.at 2 rfl (Up.cellIs _ _ _) (blk_cell rfl))) rfl ?_ | refine OL.q (Y.load T28 rfl (Ent.at 3 rfl (Up.cellIs _ _ _) (blk_cell rfl))) rfl ?_ | refine OL.q (Y.load T28 rfl (Ent.at 4 rfl (Up.cellIs _ _ _) (blk_cell rfl))) rfl ?_ | refine OL.q (Y.load T28 rfl (Ent.at 5 rfl (Up.cellIs _ _ _) (blk_cell rfl))) rfl ?_
        refine OL.q (Y.move rfl) rfl ?_
        refine OL.q (Y.index Try.underlying28 C3 rfl rfl (Ent.at 3 rfl (Up.rd _ _ _ _) row_rd) (k := j) (by omega) (by omega)) rfl ?_
        refine OL.q (Y.load T3 rfl (cellsIs_at0 (rd_at (Ent.at 3 rfl (Up.rd _ _ _ _) row_rd) (mget numCells hf)) rfl)) rfl ?_
        refine OL.q (Y.assign rfl) rfl ?_
        refine OL.nil ?_
        refine EX.seq ?_
        refine CW.seq ?_
        refine CW.seq ?_
        refine CW.region ?_
        refine OL.q (Y.move rfl) rfl ?_
        refine OL.q (Y.nilCheck rfl) rfl ?_
        refine OL.q (Y.field L75_0 rfl) rfl ?_
        first | refine OL.q (Y.load T73 rfl (Ent.at 0 rfl (Up.cellIs _ _ _) (blk_cell rfl))) rfl ?_ | refine OL.q (Y.load T73 rfl (Ent.at 1 rfl (Up.cellIs _ _ _) (blk_cell rfl))) rfl ?_ | refine OL.q (Y.load T73 rfl (Ent.at 2 rfl (Up.cellIs _ _ _) (blk_cell rfl))) rfl ?_ | refine OL.q (Y.load T73 rfl (Ent.at 3 rfl (Up.cellIs _ _ _) (blk_cell rfl))) rfl ?_ | refine OL.q (Y.load T73 rfl (Ent.at 4 rfl (Up.cellIs _ _ _) (blk_cell rfl))) rfl ?_ | refine OL.q (Y.load T73 rfl (Ent.at 5 rfl (Up.cellIs _ _ _) (blk_cell rfl))) rfl ?_
        refine OL.q (Y.move rfl) rfl ?_
        refine OL.q (Y.sliceLo (k := f) Try.underlying73 C77 rfl rfl rfl (by omega)) rfl ?_
        refine OL.q (Y.lenSl Try.underlying73 rfl) rfl ?_
        refine OL.q (Y.move rfl) rfl ?_
        refine OL.nil ?_
        refine EX.seq ?_
        refine CW.block ?_
        refine CW.loop (α := Nat) ⟨fun i => i ≤ v.n - f, fun i => [(0, .pointer (some ⟨t, 0, none⟩)), (5, .int .i64 ((v.ln : Int) - m)), (6, .int .i64 f), (39, .slice (subA v.a v.c f 2) (v.n - f) (v.c - f)), (40, .int .i64 ((v.n - f : Nat) : Int)), (41, .int .i64 i)],
            fun i => [blk t [.slice v.a v.n v.c, .map (some v.m), .slice v.la v.ln v.lc] 75, row v.a v.n v.c 77 2 (S.ents.map entCells), mapc Value.string v.m (strike (placesFrom 0 S.ents) ((S.ents.drop f).take i)),
              row v.la v.ln v.lc 3 1 (S.levels.map numCells)]⟩
          (fun i => v.n - f - i) 0 [0, 1, 2, 3] (Nat.zero_le _) ⟨rfl, rfl, rfl, rfl, rfl, rfl, trivial⟩ rfl rfl ?_
        intro i hi
        dsimp only at hi ⊢
        refine CW.seq ?_
        refine CW.region ?_
        refine OL.q (Y.lss rfl rfl) rfl ?_
        refine OL.nil ?_
        refine EX.seq ?_
        refine CW.seq ?_
        refine CW.cond rfl (fun h3 => ?_) (fun h3 => ?_)
        · repeat (first | replace h3 := yes h3 | replace h3 := no h3 | replace h3 := nyes h3 | replace h3 := nno h3)
          obtain ⟨⟨s, x⟩, hp⟩ : ∃ p, (S.ents.drop f)[i]? = some p := ⟨_, List.getElem?_eq_getElem (by simp; omega)⟩
          have hq : ((S.ents.map entCells).drop f)[i]? = some [.string s, .int .i64 x] := by rw [← List.map_drop]; exact mget entCells hp
          refine CW.skip ?_
          refine EX.seq ?_
          refine CW.seq ?_
          refine CW.block ?_
          refine CW.seq ?_
          refine CW.region ?_
          refine OL.q (Y.index Try.underlying73 C77 rfl rfl (Ent.sub (Ent.at 1 rfl (Up.rd _ _ _ _) row_rd) e3 (by omega)) rfl (by omega)) rfl ?_
          refine OL.q (Y.loadN S77 rfl rfl (rd_at (Ent.sub (Ent.at 1 rfl (Up.rd _ _ _ _) row_rd) e3 (by omega)) hq)) rfl ?_
          refine OL.alloc C77 rfl (fun b8 => ⟨rfl, rfl, ?_⟩)
          first | refine OL.storeAll 0 rfl C77 rfl rfl rfl rfl rfl rfl ⟨rfl, rfl, ?_⟩ | refine OL.storeAll 1 rfl C77 rfl rfl rfl rfl rfl rfl ⟨rfl, rfl, ?_⟩ | refine OL.storeAll 2 rfl C77 rfl rfl rfl rfl rfl rfl ⟨rfl, rfl, ?_⟩ | refine OL.storeAll 3 rfl C77 rfl rfl rfl rfl rfl rfl ⟨rfl, rfl, ?_⟩ | refine OL.storeAll 4 rfl C77 rfl rfl rfl rfl rfl rfl ⟨rfl, rfl, ?_⟩ | refine OL.storeAll 5 rfl C77 rfl rfl rfl rfl rfl rfl ⟨rfl, rfl, ?_⟩
          refine OL.nil ?_
          refine EX.seq ?_
          refine CW.drawn [(true, 0), (true, 1), (true, 2), (true, 3), (true, 4), (true, 5), (false, 6)] [] [0, 4] mixed (by kernel_rfl) (by repeat (first | exact PanicOk.body | refine PanicOk.then ?_ | refine PanicOk.block ?_)) (by kernel_rfl) rfl rfl rfl rfl ?_
          refine OL.qt (Y.move rfl) rfl ?_
          refine OL.qt (Y.nilCheck rfl) rfl ?_
          refine OL.qt (Y.field L75_1 rfl) rfl ?_
          first | refine OL.qt (Y.load T72 rfl (Ent.at 0 rfl (Up.cellIs _ _ _) (blk_cell rfl))) rfl ?_ | refine OL.qt (Y.load T72 rfl (Ent.at 1 rfl (Up.cellIs _ _ _) (blk_cell rfl))) rfl ?_ | refine OL.qt (Y.load T72 rfl (Ent.at 2 rfl (Up.cellIs _ _ _) (blk_cell rfl))) rfl ?_ | refine OL.qt (Y.load T72 rfl (Ent.at 3 rfl (Up.cellIs _ _ _) (blk_cell rfl))) rfl ?_ | refine OL.qt (Y.load T72 rfl (Ent.at 4 rfl (Up.cellIs _ _ _) (blk_cell rfl))) rfl ?_ | refine OL.qt (Y.load T72 rfl (Ent.at 5 rfl (Up.cellIs _ _ _) (blk_cell rfl))) rfl ?_
          refine OL.qt (Y.field L77_0 rfl) rfl ?_
          first | refine OL.qt (Y.load T9 rfl (Ent.at 0 rfl (Up.cellIs _ _ _) (blk_cell rfl))) rfl ?_ | refine OL.qt (Y.load T9 rfl (Ent.at 1 rfl (Up.cellIs _ _ _) (blk_cell rfl))) rfl ?_ | refine OL.qt (Y.load T9 rfl (Ent.at 2 rfl (Up.cellIs _ _ _) (blk_cell rfl))) rfl ?_ | refine OL.qt (Y.load T9 rfl (Ent.at 3 rfl (Up.cellIs _ _ _) (blk_cell rfl))) rfl ?_ | refine OL.qt (Y.load T9 rfl (Ent.at 4 rfl (Up.cellIs _ _ _) (blk_cell rfl))) rfl ?_ | refine OL.qt (Y.load T9 rfl (Ent.at 5 rfl (Up.cellIs _ _ _) (blk_cell rfl))) rfl ?_
          first | refine OL.delete (ats := [9]) 0 rfl Try.underlying72 (KeyT.string Try.underlying9) rfl rfl ⟨rfl, rfl, ?_⟩ | refine OL.delete (ats := [9]) 1 rfl Try.underlying72 (KeyT.string Try.underlying9) rfl rfl ⟨rfl, rfl, ?_⟩ | refine OL.delete (ats := [9]) 2 rfl Try.underlying72 (KeyT.string Try.underlying9) rfl rfl ⟨rfl, rfl, ?_⟩ | refine OL.delete (ats := [9]) 3 rfl Try.underlying72 (KeyT.string Try.underlying9) rfl rfl ⟨rfl, rfl, ?_⟩ | refine OL.delete (ats := [9]) 4 rfl Try.underlying72 (KeyT.string Try.underlying9) rfl rfl ⟨rfl, rfl, ?_⟩ | refine OL.delete (ats := [9]) 5 rfl Try.underlying72 (KeyT.string Try.underlying9) rfl rfl ⟨rfl, rfl, ?_⟩
          refine OL.nil ?_
          refine EX.tail ?_
          refine OL.nil ?_
          refine EX.norB ?_
          refine EX.seq ?_
          refine CW.region ?_
          first | refine OL.q (Y.add1 rfl rfl rfl (by omega)) rfl ?_ | refine OL.q (Y.addN rfl rfl (by omega)) rfl ?_ | refine OL.q (Y.add rfl rfl (by omega)) rfl ?_
          refine OL.q (Y.move rfl) rfl ?_
          refine OL.nil ?_
          refine EX.next (i + 1) [0, 1, 2, 3] (show i + 1 ≤ v.n - f by omega) (show v.n - f - (i + 1) < v.n - f - i by omega) ⟨rfl, rfl, rfl, rfl, rfl, rfl, trivial⟩ rfl ?_
          show [_, _, _, _] = [_, _, _, _]
          rw [take_snoc hp, strike_snoc]
        · repeat (first | replace h3 := yes h3 | replace h3 := no h3 | replace h3 := nyes h3 | replace h3 := nno h3)
          refine CW.exit ?_
          refine EX.exitT ?_
          refine EX.exitT ?_
          refine EX.exitB ?_
          refine EX.seq ?_
          refine CW.seq ?_
          refine CW.region ?_
          refine OL.q (Y.move rfl) rfl ?_
          refine OL.q (Y.nilCheck rfl) rfl ?_
          refine OL.q (Y.field L75_0 rfl) rfl ?_
          first | refine OL.q (Y.load T73 rfl (Ent.at 0 rfl (Up.cellIs _ _ _) (blk_cell rfl))) rfl ?_ | refine OL.q (Y.load T73 rfl (Ent.at 1 rfl (Up.cellIs _ _ _) (blk_cell rfl))) rfl ?_ | refine OL.q (Y.load T73 rfl (Ent.at 2 rfl (Up.cellIs _ _ _) (blk_cell rfl))) rfl ?_ | refine OL.q (Y.load T73 rfl (Ent.at 3 rfl (Up.cellIs _ _ _) (blk_cell rfl))) rfl ?_ | refine OL.q (Y.load T73 rfl (Ent.at 4 rfl (Up.cellIs _ _ _) (blk_cell rfl))) rfl ?_ | refine OL.q (Y.load T73 rfl (Ent.at 5 rfl (Up.cellIs _ _ _) (blk_cell rfl))) rfl ?_
          refine OL.q (Y.move rfl) rfl ?_
          refine OL.q (Y.sliceLo (k := f) Try.underlying73 C77 rfl rfl rfl (by omega)) rfl ?_
          refine OL.clear (ats := []) 1 rfl Try.underlying73 C77 rfl rfl (by omega) ⟨rfl, rfl, ?_⟩
          refine OL.nil ?_
          refine EX.seq ?_
          refine CW.seq ?_
          refine CW.region ?_
          refine OL.q (Y.move rfl) rfl ?_
          refine OL.q (Y.move rfl) rfl ?_
          refine OL.q (Y.nilCheck rfl) rfl ?_
          refine OL.q (Y.field L75_0 rfl) rfl ?_
          first | refine OL.q (Y.load T73 rfl (Ent.at 0 rfl (Up.cellIs _ _ _) (blk_cell rfl))) rfl ?_ | refine OL.q (Y.load T73 rfl (Ent.at 1 rfl (Up.cellIs _ _ _) (blk_cell rfl))) rfl ?_ | refine OL.q (Y.load T73 rfl (Ent.at 2 rfl (Up.cellIs _ _ _) (blk_cell rfl))) rfl ?_ | refine OL.q (Y.load T73 rfl (Ent.at 3 rfl (Up.cellIs _ _ _) (blk_cell rfl))) rfl ?_ | refine OL.q (Y.load T73 rfl (Ent.at 4 rfl (Up.cellIs _ _ _) (blk_cell rfl))) rfl ?_ | refine OL.q (Y.load T73 rfl (Ent.at 5 rfl (Up.cellIs _ _ _) (blk_cell rfl))) rfl ?_
          refine OL.q (Y.move rfl) rfl ?_
          refine OL.q (Y.sliceHi (k := f) Try.underlying73 C77 rfl rfl rfl (by omega)) rfl ?_
          refine OL.q (Y.nilCheck rfl) rfl ?_
          refine OL.q (Y.field L75_0 rfl) rfl ?_
          first | refine OL.store 0 rfl C73 rfl rfl rfl rfl rfl ⟨rfl, rfl, ?_⟩ | refine OL.store 1 rfl C73 rfl rfl rfl rfl rfl ⟨rfl, rfl, ?_⟩ | refine OL.store 2 rfl C73 rfl rfl rfl rfl rfl ⟨rfl, rfl, ?_⟩ | refine OL.store 3 rfl C73 rfl rfl rfl rfl rfl ⟨rfl, rfl, ?_⟩ | refine OL.store 4 rfl C73 rfl rfl rfl rfl rfl ⟨rfl, rfl, ?_⟩ | refine OL.store 5 rfl C73 rfl rfl rfl rfl rfl ⟨rfl, rfl, ?_⟩
          refine OL.nil ?_
          refine EX.seq ?_
          refine CW.seq ?_
          refine CW.region ?_
          refine OL.q (Y.move rfl) rfl ?_
          refine OL.q (Y.move rfl) rfl ?_
          refine OL.q (Y.nilCheck rfl) rfl ?_
          refine OL.q (Y.field L75_2 rfl) rfl ?_
          first | refine OL.q (Y.load T28 rfl (Ent.at 0 rfl (Up.cellIs _ _ _) (blk_cell rfl))) rfl ?_ | refine OL.q (Y.load T28 rfl (Ent.at 1 rfl (Up.cellIs _ _ _) (blk_cell rfl))) rfl ?_ | refine OL.q (Y.load T28 rfl (Ent.at 2 rfl (Up.cellIs _ _ _) (blk_cell rfl))) rfl ?_ | refine OL.q (Y.load T28 rfl (Ent.at 3 rfl (Up.cellIs _ _ _) (blk_cell rfl))) rfl ?_ | refine OL.q (Y.load T28 rfl (Ent.at 4 rfl (Up.cellIs _ _ _) (blk_cell rfl))) rfl ?_ | refine OL.q (Y.load T28 rfl (Ent.at 5 rfl (Up.cellIs _ _ _) (blk_cell rfl))) rfl ?_
          refine OL.q (Y.move rfl) rfl ?_
          refine OL.q (Y.sliceHi (k := j) Try.underlying28 C3 rfl rfl (by omega) (by omega)) rfl ?_
          refine OL.q (Y.nilCheck rfl) rfl ?_
          refine OL.q (Y.field L75_2 rfl) rfl ?_
          first | refine OL.store 0 rfl C28 rfl rfl rfl rfl rfl ⟨rfl, rfl, ?_⟩ | refine OL.store 1 rfl C28 rfl rfl rfl rfl rfl ⟨rfl, rfl, ?_⟩ | refine OL.store 2 rfl C28 rfl rfl rfl rfl rfl ⟨rfl, rfl, ?_⟩ | refine OL.store 3 rfl C28 rfl rfl rfl rfl rfl ⟨rfl, rfl, ?_⟩ | refine OL.store 4 rfl C28 rfl rfl rfl rfl rfl ⟨rfl, rfl, ?_⟩ | refine OL.store 5 rfl C28 rfl rfl rfl rfl rfl ⟨rfl, rfl, ?_⟩
          refine OL.nil ?_
          refine EX.seq ?_
          refine CW.seq ?_
          refine CW.region ?_
          refine OL.q (Y.assign rfl) rfl ?_
          refine OL.nil ?_
          refine EX.seq ?_
          refine CW.ret ?_
          have hin : i = v.n - f := by omega
          subst hin
          have he : S.pop (m : Int) = (0, ⟨S.ents.take f, S.levels.take j⟩) := by
            rw [e2] at h1
            simp only [Scope.pop, if_neg h0, if_neg h1, if_neg h2, Int.toNat_natCast, ← hje, List.getD_eq_getElem?_getD, hf, Option.getD_some]
          refine EX.read (fun _ : Unit => True) (fun _ => [scopeAt t ⟨S.ents.take f, S.levels.take j⟩]) (fun h hs => ⟨(), trivial, scope_shut (S := ⟨S.ents.take f, S.levels.take j⟩) ⟨v.a, f, v.c, v.m, v.la, j, v.lc⟩ (ok_pop hn hf) h ?_⟩) (fun _ _ => ?_)
          · have h2 := sl_set_mono (i := 1) rfl (hs.picked (is := [0, 1, 2, 3]) rfl) (row_take (k := f) (by omega))
            have h3 := sl_set_mono (i := 3) rfl h2 (row_take (k := j) (by omega))
            have e5 : strike (placesFrom 0 S.ents) ((S.ents.drop f).take (v.n - f)) = placesFrom 0 (S.ents.take f) := by
              rw [List.take_of_length_le (by simp; omega)]
              exact strike_pop hn.nodup f
            have e7 : ((S.ents.map entCells).take f ++ List.replicate (v.n - f) [Value.string ⟨#[]⟩, Value.int .i64 0]).take f = (S.ents.take f).map entCells := by
              rw [List.take_append_of_le_length (by simp; omega), List.take_take, Nat.min_self, List.map_take]
            unfold scopeL
            rw [← e5, ← e7, List.map_take]
            exact h3
          · exact EX.fin1 [0] rfl rfl rfl (by rw [he]; exact ⟨rfl, rfl⟩)

theorem names_any (t : Nat) (S : Scope) (hE : S.ents.length ≤ 1000000) :
    FS Try.prog 16 [.pointer (some ⟨t, 0, none⟩)] (nothing) [scopeAt t S] (fun v H => ∃ a c, v = .slice a S.ents.length c ∧ H = [scopeAt t S, row a S.ents.length c 9 1 (S.ents.map fun p => strCells p.1)]) := by
  refine FS.intro (N := 22) Try.func16 rfl rfl rfl (fun F w0 hF => ?_)
  refine CW.read _ (scopeL t S) scope_open ?_
  rintro v ⟨hn, e1, e2, e3, e4⟩
  refine CW.seq ?_
  refine CW.region ?_
  refine OL.q (Y.assign rfl) rfl ?_
  refine OL.nil ?_
  refine EX.seq ?_
  refine CW.seq ?_
  refine CW.region ?_
  refine OL.q (Y.assign rfl) rfl ?_
  refine OL.nil ?_
  refine EX.seq ?_
  refine CW.seq ?_
  refine CW.seq ?_
  refine CW.region ?_
  refine OL.q (Y.move rfl) rfl ?_
  refine OL.q (Y.nilCheck rfl) rfl ?_
  refine OL.q (Y.field L75_0 rfl) rfl ?_
  first | refine OL.q (Y.load T73 rfl (Ent.at 0 rfl (Up.cellIs _ _ _) (blk_cell rfl))) rfl ?_ | refine OL.q (Y.load T73 rfl (Ent.at 1 rfl (Up.cellIs _ _ _) (blk_cell rfl))) rfl ?_ | refine OL.q (Y.load T73 rfl (Ent.at 2 rfl (Up.cellIs _ _ _) (blk_cell rfl))) rfl ?_ | refine OL.q (Y.load T73 rfl (Ent.at 3 rfl (Up.cellIs _ _ _) (blk_cell rfl))) rfl ?_ | refine OL.q (Y.load T73 rfl (Ent.at 4 rfl (Up.cellIs _ _ _) (blk_cell rfl))) rfl ?_ | refine OL.q (Y.load T73 rfl (Ent.at 5 rfl (Up.cellIs _ _ _) (blk_cell rfl))) rfl ?_
  refine OL.q (Y.lenSl Try.underlying73 rfl) rfl ?_
  refine OL.q (Y.move rfl) rfl ?_
  refine OL.nil ?_
  refine EX.seq ?_
  refine CW.block ?_
  refine CW.nilRow 9 1 ?_
  refine CW.loop (α := Nat × Option Addr × Nat) ⟨fun x => x.1 ≤ v.n, fun x => [(0, .pointer (some ⟨t, 0, none⟩)), (3, .slice x.2.1 x.1 x.2.2), (9, .slice v.a v.n v.c), (10, .int .i64 v.n), (11, .int .i64 x.1)],
      fun x => scopeL t S v ++ [row x.2.1 x.1 x.2.2 9 1 ((S.ents.take x.1).map fun p => strCells p.1)]⟩
    (fun x => v.n - x.1) (0, none, 0) [0, 1, 2, 3, 4] (Nat.zero_le _) ⟨rfl, rfl, rfl, rfl, rfl, trivial⟩ rfl rfl ?_
  rintro ⟨k, a, c⟩ hk
  dsimp only at hk ⊢
  refine CW.seq ?_
  skip
  refine CW.region ?_
  refine OL.q (Y.lss rfl rfl) rfl ?_
  refine OL.nil ?_
  refine EX.seq ?_
  refine CW.seq ?_
  refine CW.cond rfl (fun h0 => ?_) (fun h0 => ?_)
  · repeat (first | replace h0 := yes h0 | replace h0 := no h0 | replace h0 := nyes h0 | replace h0 := nno h0)
    obtain ⟨⟨s, x⟩, hp⟩ : ∃ p, S.ents[k]? = some p := ⟨_, List.getElem?_eq_getElem (by omega)⟩
    have hq : (S.ents.map entCells)[k]? = some [.string s, .int .i64 x] := mget entCells hp
    refine CW.skip ?_
    refine EX.seq ?_
    refine CW.seq ?_
    refine CW.block ?_
    refine CW.seq ?_
    refine CW.region ?_
    first | refine OL.q (Y.index Try.underlying73 C77 rfl rfl (Ent.at 0 rfl (Up.rd _ _ _ _) row_rd) rfl (by omega)) rfl ?_ | refine OL.q (Y.index Try.underlying73 C77 rfl rfl (Ent.at 1 rfl (Up.rd _ _ _ _) row_rd) rfl (by omega)) rfl ?_ | refine OL.q (Y.index Try.underlying73 C77 rfl rfl (Ent.at 2 rfl (Up.rd _ _ _ _) row_rd) rfl (by omega)) rfl ?_ | refine OL.q (Y.index Try.underlying73 C77 rfl rfl (Ent.at 3 rfl (Up.rd _ _ _ _) row_rd) rfl (by omega)) rfl ?_ | refine OL.q (Y.index Try.underlying73 C77 rfl rfl (Ent.at 4 rfl (Up.rd _ _ _ _) row_rd) rfl (by omega)) rfl ?_ | refine OL.q (Y.index Try.underlying73 C77 rfl rfl (Ent.at 5 rfl (Up.rd _ _ _ _) row_rd) rfl (by omega)) rfl ?_
    refine OL.q (Y.loadN S77 rfl rfl (rd_at (Ent.at 1 rfl (Up.rd _ _ _ _) row_rd) hq)) rfl ?_
    refine OL.alloc C77 rfl (fun b5 => ⟨rfl, rfl, ?_⟩)
    first | refine OL.storeAll 0 rfl C77 rfl rfl rfl rfl rfl rfl ⟨rfl, rfl, ?_⟩ | refine OL.storeAll 1 rfl C77 rfl rfl rfl rfl rfl rfl ⟨rfl, rfl, ?_⟩ | refine OL.storeAll 2 rfl C77 rfl rfl rfl rfl rfl rfl ⟨rfl, rfl, ?_⟩ | refine OL.storeAll 3 rfl C77 rfl rfl rfl rfl rfl rfl ⟨rfl, rfl, ?_⟩ | refine OL.storeAll 4 rfl C77 rfl rfl rfl rfl rfl rfl ⟨rfl, rfl, ?_⟩ | refine OL.storeAll 5 rfl C77 rfl rfl rfl rfl rfl rfl ⟨rfl, rfl, ?_⟩
    refine OL.nil ?_
    refine EX.seq ?_
    refine CW.region ?_
    refine OL.q (Y.move rfl) rfl ?_
    refine OL.q (Y.field L77_0 rfl) rfl ?_
    first | refine OL.q (Y.load T9 rfl (Ent.at 0 rfl (Up.cellIs _ _ _) (blk_cell rfl))) rfl ?_ | refine OL.q (Y.load T9 rfl (Ent.at 1 rfl (Up.cellIs _ _ _) (blk_cell rfl))) rfl ?_ | refine OL.q (Y.load T9 rfl (Ent.at 2 rfl (Up.cellIs _ _ _) (blk_cell rfl))) rfl ?_ | refine OL.q (Y.load T9 rfl (Ent.at 3 rfl (Up.cellIs _ _ _) (blk_cell rfl))) rfl ?_ | refine OL.q (Y.load T9 rfl (Ent.at 4 rfl (Up.cellIs _ _ _) (blk_cell rfl))) rfl ?_ | refine OL.q (Y.load T9 rfl (Ent.at 5 rfl (Up.cellIs _ _ _) (blk_cell rfl))) rfl ?_
    refine OL.buildSlice ([[.string s]]) Try.underlying23 C9 (by decide) rfl (by decide) rfl rfl rfl (fun b18 => ⟨rfl, rfl, ?_⟩)
    first | refine OL.append _ 4 rfl Try.underlying23 E9 rfl rfl (Ent.at 6 rfl (Up.rd _ _ _ _) row_rd) rfl (by omega) (by omega) rfl (fun a19 c19 => ⟨rfl, rfl, ?_⟩)
    refine OL.q (Y.assign rfl) rfl ?_
    refine OL.nil ?_
    refine EX.norB ?_
    refine EX.seq ?_
    refine CW.region ?_
    first | refine OL.q (Y.add1 rfl rfl rfl (by omega)) rfl ?_ | refine OL.q (Y.addN rfl rfl (by omega)) rfl ?_ | refine OL.q (Y.add rfl rfl (by omega)) rfl ?_
    refine OL.q (Y.move rfl) rfl ?_
    refine OL.nil ?_
    refine EX.next (k + 1, a19, c19) [0, 1, 2, 3, 4] (show k + 1 ≤ v.n by omega) (show v.n - (k + 1) < v.n - k by omega) ⟨rfl, rfl, rfl, rfl, rfl, trivial⟩ rfl ?_
    show [_, _, _, _, _] = [_, _, _, _, _]
    rw [take_snoc hp, List.map_append]
    rfl
  · repeat (first | replace h0 := yes h0 | replace h0 := no h0 | replace h0 := nyes h0 | replace h0 := nno h0)
    refine CW.exit ?_
    refine EX.exitT ?_
    refine EX.exitT ?_
    refine EX.exitB ?_
    refine EX.seq ?_
    refine CW.seq ?_
    refine CW.region ?_
    refine OL.q (Y.move rfl) rfl ?_
    refine OL.q (Y.assign rfl) rfl ?_
    refine OL.nil ?_
    refine EX.seq ?_
    refine CW.ret ?_
    have hkn : k = v.n := by omega
    subst hkn
    refine EX.read (fun _ : Unit => True) (fun _ => [scopeAt t S, row a v.n c 9 1 (S.ents.map fun p => strCells p.1)]) (fun h hs => ⟨(), trivial, ?_⟩) (fun _ _ => ?_)
    · have h2 := hs.picked (is := [0, 1, 2, 3, 4]) rfl
      have e5 : S.ents.take v.n = S.ents := List.take_of_length_le (by omega)
      rw [e5] at h2
      exact scope_shut (F := [row a v.n c 9 1 (S.ents.map fun p => strCells p.1)] ++ F) v hn h h2
    · exact EX.fin1 [0, 1] rfl rfl rfl (by rw [← e1]; exact ⟨a, c, rfl, rfl⟩)
end Go.Proofs.Ythnejajlkijobaa
