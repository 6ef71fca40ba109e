/- The document's table of names (collatorref08), and 'same' of the statements: each answers as the table of scope does. -/
import Derived.Test.YthnejajlkijobaaScope
namespace Go.Proofs.Ythnejajlkijobaa
open Go.Sx

theorem T23 : Ty1 Try.prog 23 (.slice none 0 0) := ⟨Try.isAgg23, Try.sizeOf23, Try.zeroValue23⟩
theorem C23 : TyC Try.prog 23 1 [.slice none 0 0] := T23.c rfl
theorem L30_0 : Fld Try.prog 30 0 0 := ⟨⟨_, Try.underlying30, _, rfl, rfl, 1, by decide, Try.sizeOf23⟩⟩
theorem L30_1 : Fld Try.prog 30 1 1 := ⟨⟨_, Try.underlying30, _, rfl, rfl, 1, by decide, Try.sizeOf28⟩⟩
theorem L30_2 : Fld Try.prog 30 2 2 := ⟨⟨_, Try.underlying30, _, rfl, rfl, 1, by decide, Try.sizeOf28⟩⟩
theorem L30_3 : Fld Try.prog 30 3 3 := ⟨⟨_, Try.underlying30, _, rfl, rfl, 1, by decide, Try.sizeOf3⟩⟩


/-- At which level a name stands, by its place. -/
def lvOf (L : List Nat) (i : Nat) : Nat := (L.filter (fun l => decide (l ≤ i))).length
def lvls (S : Scope) : List Nat := (List.range S.ents.length).map (lvOf S.levels)
structure RefV where
  na : Option Addr
  nn : Nat
  nc : Nat
  ta : Option Addr
  tn : Nat
  tc : Nat
  aa : Option Addr
  an : Nat
  ac : Nat
def refL (r : Nat) (S : Scope) (v : RefV) : List HP :=
  [blk r [.slice v.na v.nn v.nc, .slice v.ta v.tn v.tc, .slice v.aa v.an v.ac, .int .i64 S.levels.length] 30,
   row v.na v.nn v.nc 9 1 (S.ents.map fun p => strCells p.1), row v.ta v.tn v.tc 3 1 (S.ents.map fun p => intCells p.2), row v.aa v.an v.ac 3 1 ((lvls S).map numCells)]
def refAt (r : Nat) (S : Scope) : HP := fun h => ∃ v : RefV, S.Ok ∧ star (refL r S v) h
theorem ref_open {r : Nat} {S : Scope} {F : List HP} : ∀ h, sl ([refAt r S] ++ F) h → ∃ v : RefV, (S.Ok ∧ (v.nn = S.ents.length ∧ v.tn = S.ents.length ∧ v.an = S.ents.length) ∧ v.nn ≤ v.nc ∧ v.tn ≤ v.tc ∧ v.an ≤ v.ac) ∧ sl (refL r S v ++ F) h := by
  intro h hs
  obtain ⟨v, hv⟩ := sl_ex hs
  obtain ⟨hn, hv⟩ := sl_pure hv
  have h2 := sl_star.1 hv
  obtain ⟨_, _, _, _, _, hr, _⟩ := h2.take (i := 1) rfl
  obtain ⟨_, _, _, _, _, hq, _⟩ := h2.take (i := 2) rfl
  obtain ⟨_, _, _, _, _, hz, _⟩ := h2.take (i := 3) rfl
  exact ⟨v, ⟨hn, ⟨by simpa using hr.1.symm, by simpa using hq.1.symm, by simpa [lvls] using hz.1.symm⟩, row_cap hr, row_cap hq, row_cap hz⟩, h2⟩
theorem ref_shut {r : Nat} {S : Scope} {F : List HP} (v : RefV) (hn : S.Ok) : ∀ h, sl (refL r S v ++ F) h → sl ([refAt r S] ++ F) h := by
  intro h hs
  obtain ⟨h1, h2, d, e1, e2, s1, s2⟩ := (sl_star (l := refL r S v) (l' := F)).2 hs
  exact ⟨h1, h2, d, e1, e2, ⟨v, hn, s1⟩, s2⟩

theorem posOf_first {s : ByteArray} {x : Int} : ∀ {l : List (ByteArray × Int)} {k : Nat}, l[k]? = some (s, x) → (∀ j, j < k → ∀ p, l[j]? = some p → s ≠ p.1) → posOf s l = some k
  | [], _, h, _ => by simp at h
  | p :: l, 0, h, _ => by simp at h; subst h; simp [posOf]
  | p :: l, k + 1, h, hj => by
    have h0 := hj 0 (by omega) p rfl
    simp only [List.getElem?_cons_succ] at h
    have ih := posOf_first h (fun j hjk q hq => hj (j + 1) (by omega) q (by simpa using hq))
    simp [posOf, h0, ih]
theorem posOf_absent {s : ByteArray} : ∀ {l : List (ByteArray × Int)}, (∀ (j : Nat) p, l[j]? = some p → s ≠ p.1) → posOf s l = none
  | [], _ => rfl
  | p :: l, h => by
    have h0 := h 0 p rfl
    have ih := posOf_absent (l := l) (fun j q hq => h (j + 1) q (by simpa using hq))
    simp [posOf, h0, ih]
/-- The place of a name; -1: none. -/
def place1 (s : ByteArray) (l : List (ByteArray × Int)) : Int := match posOf s l with | some k => k | none => -1


theorem rfind_any (r : Nat) (S : Scope) (s : ByteArray) (hE : S.ents.length ≤ 1000000) :
    FS Try.prog 18 [.pointer (some ⟨r, 0, none⟩), .string s] (nothing) [refAt r S] (fun v H => v = .int .i64 (place1 s S.ents) ∧ H = [refAt r S]) := by
  refine FS.intro (N := 25) Try.func18 rfl rfl rfl (fun F w0 hF => ?_)
  refine CW.read _ (refL r S) ref_open ?_
  rintro v ⟨hn, ⟨e1, e2, e3⟩, c1, c2, c3⟩
  refine CW.seq ?_
  refine CW.region ?_
  refine OL.q (Y.assign rfl) rfl ?_
  refine OL.nil ?_
  refine EX.seq ?_
  refine CW.seq ?_
  refine CW.seq ?_
  refine CW.region ?_
  refine OL.q (Y.assign rfl) rfl ?_
  refine OL.nil ?_
  refine EX.seq ?_
  refine CW.block ?_
  refine CW.loop (α := Nat) ⟨fun k => k ≤ v.nn ∧ ∀ j, j < k → ∀ p, S.ents[j]? = some p → s ≠ p.1, fun k => [(0, .pointer (some ⟨r, 0, none⟩)), (1, .string s), (5, .int .i64 k)], fun _ => refL r S v⟩
    (fun k => v.nn - k) 0 [0, 1, 2, 3] ⟨Nat.zero_le _, fun _ h => absurd h (Nat.not_lt_zero _)⟩ ⟨rfl, rfl, rfl, trivial⟩ rfl rfl ?_
  rintro k ⟨hk, hj⟩
  dsimp only at hk hj ⊢
  refine CW.seq ?_
  refine CW.seq ?_
  refine CW.region ?_
  refine OL.q (Y.move rfl) rfl ?_
  refine OL.q (Y.move rfl) rfl ?_
  refine OL.q (Y.nilCheck rfl) rfl ?_
  refine OL.q (Y.field L30_0 rfl) rfl ?_
  first | refine OL.q (Y.load T23 rfl (Ent.at 0 rfl (Up.cellIs _ _ _) (blk_cell rfl))) rfl ?_ | refine OL.q (Y.load T23 rfl (Ent.at 1 rfl (Up.cellIs _ _ _) (blk_cell rfl))) rfl ?_ | refine OL.q (Y.load T23 rfl (Ent.at 2 rfl (Up.cellIs _ _ _) (blk_cell rfl))) rfl ?_ | refine OL.q (Y.load T23 rfl (Ent.at 3 rfl (Up.cellIs _ _ _) (blk_cell rfl))) rfl ?_ | refine OL.q (Y.load T23 rfl (Ent.at 4 rfl (Up.cellIs _ _ _) (blk_cell rfl))) rfl ?_ | refine OL.q (Y.load T23 rfl (Ent.at 5 rfl (Up.cellIs _ _ _) (blk_cell rfl))) rfl ?_
  refine OL.q (Y.lenSl Try.underlying23 rfl) rfl ?_
  refine OL.q (Y.lss rfl rfl) rfl ?_
  refine OL.nil ?_
  refine EX.seq ?_
  refine CW.cond rfl (fun h0 => ?_) (fun h0 => ?_)
  · repeat (first | replace h0 := yes h0 | replace h0 := no h0 | replace h0 := nyes h0 | replace h0 := nno h0)
    obtain ⟨⟨s', x⟩, hq⟩ : ∃ p, S.ents[k]? = some p := ⟨_, List.getElem?_eq_getElem (by omega)⟩
    refine CW.skip ?_
    refine EX.seq ?_
    refine CW.seq ?_
    refine CW.block ?_
    refine CW.seq ?_
    refine CW.region ?_
    refine OL.q (Y.move rfl) rfl ?_
    refine OL.q (Y.nilCheck rfl) rfl ?_
    refine OL.q (Y.field L30_0 rfl) rfl ?_
    first | refine OL.q (Y.load T23 rfl (Ent.at 0 rfl (Up.cellIs _ _ _) (blk_cell rfl))) rfl ?_ | refine OL.q (Y.load T23 rfl (Ent.at 1 rfl (Up.cellIs _ _ _) (blk_cell rfl))) rfl ?_ | refine OL.q (Y.load T23 rfl (Ent.at 2 rfl (Up.cellIs _ _ _) (blk_cell rfl))) rfl ?_ | refine OL.q (Y.load T23 rfl (Ent.at 3 rfl (Up.cellIs _ _ _) (blk_cell rfl))) rfl ?_ | refine OL.q (Y.load T23 rfl (Ent.at 4 rfl (Up.cellIs _ _ _) (blk_cell rfl))) rfl ?_ | refine OL.q (Y.load T23 rfl (Ent.at 5 rfl (Up.cellIs _ _ _) (blk_cell rfl))) rfl ?_
    refine OL.q (Y.move rfl) rfl ?_
    first | refine OL.q (Y.index Try.underlying23 C9 rfl rfl (Ent.at 0 rfl (Up.rd _ _ _ _) row_rd) rfl (by omega)) rfl ?_ | refine OL.q (Y.index Try.underlying23 C9 rfl rfl (Ent.at 1 rfl (Up.rd _ _ _ _) row_rd) rfl (by omega)) rfl ?_ | refine OL.q (Y.index Try.underlying23 C9 rfl rfl (Ent.at 2 rfl (Up.rd _ _ _ _) row_rd) rfl (by omega)) rfl ?_ | refine OL.q (Y.index Try.underlying23 C9 rfl rfl (Ent.at 3 rfl (Up.rd _ _ _ _) row_rd) rfl (by omega)) rfl ?_ | refine OL.q (Y.index Try.underlying23 C9 rfl rfl (Ent.at 4 rfl (Up.rd _ _ _ _) row_rd) rfl (by omega)) rfl ?_ | refine OL.q (Y.index Try.underlying23 C9 rfl rfl (Ent.at 5 rfl (Up.rd _ _ _ _) row_rd) rfl (by omega)) rfl ?_
    refine OL.q (Y.load T9 rfl (cellsIs_at0 (rd_at (Ent.at 1 rfl (Up.rd _ _ _ _) row_rd) (mget (fun p : ByteArray × Int => strCells p.1) hq)) rfl)) rfl ?_
    refine OL.q (Y.move rfl) rfl ?_
    refine OL.q (Y.eqlS rfl rfl) rfl ?_
    refine OL.nil ?_
    refine EX.seq ?_
    refine CW.cond rfl (fun h1 => ?_) (fun h1 => ?_)
    · repeat (first | replace h1 := yes h1 | replace h1 := no h1 | replace h1 := nyes h1 | replace h1 := nno h1)
      refine CW.seq ?_
      refine CW.region ?_
      refine OL.q (Y.move rfl) rfl ?_
      refine OL.q (Y.assign rfl) rfl ?_
      refine OL.nil ?_
      refine EX.seq ?_
      refine CW.ret ?_
      refine EX.retB ?_
      refine EX.retT ?_
      refine EX.retT ?_
      refine EX.retB ?_
      refine EX.retT ?_
      have hp : posOf s S.ents = some k := posOf_first (x := x) (by rw [hq]; exact congrArg (fun q => some (q, x)) h1) hj
      refine EX.read (fun _ : Unit => True) (fun _ => [refAt r S]) (fun h hs => ⟨(), trivial, ref_shut v hn h (hs.picked (is := [0, 1, 2, 3]) rfl)⟩) (fun _ _ => ?_)
      exact EX.fin1 [0] rfl rfl rfl ⟨by simp only [place1, hp], rfl⟩
    · repeat (first | replace h1 := yes h1 | replace h1 := no h1 | replace h1 := nyes h1 | replace h1 := nno h1)
      refine CW.skip ?_
      refine EX.norB ?_
      refine EX.seq ?_
      refine CW.region ?_
      refine OL.q (Y.move rfl) rfl ?_
      first | refine OL.q (Y.add1 rfl rfl rfl (by omega)) rfl ?_ | refine OL.q (Y.addN rfl rfl (by omega)) rfl ?_ | refine OL.q (Y.add rfl rfl (by omega)) rfl ?_
      refine OL.q (Y.assign rfl) rfl ?_
      refine OL.nil ?_
      refine EX.next (k + 1) [0, 1, 2, 3] (show k + 1 ≤ v.nn ∧ _ from ⟨by omega, fun j hjk p hp => ?_⟩) (show v.nn - (k + 1) < v.nn - k by omega) ⟨rfl, rfl, rfl, trivial⟩ rfl rfl
      rcases Nat.lt_or_ge j k with h | h
      · exact hj j h p hp
      · have : j = k := by omega
        subst this
        rw [hq] at hp; cases hp
        exact fun e => h1 e.symm
  · repeat (first | replace h0 := yes h0 | replace h0 := no h0 | replace h0 := nyes h0 | replace h0 := nno h0)
    refine CW.exit ?_
    refine EX.exitT ?_
    refine EX.exitT ?_
    refine EX.exitB ?_
    refine EX.seq ?_
    refine CW.seq ?_
    refine CW.region ?_
    refine OL.q (Y.assign rfl) rfl ?_
    refine OL.nil ?_
    refine EX.seq ?_
    refine CW.ret ?_
    have hp : posOf s S.ents = none := posOf_absent fun j p hp => hj j (by have := (List.getElem?_eq_some_iff.1 hp).1; omega) p hp
    refine EX.read (fun _ : Unit => True) (fun _ => [refAt r S]) (fun h hs => ⟨(), trivial, ref_shut v hn h (hs.picked (is := [0, 1, 2, 3]) rfl)⟩) (fun _ _ => ?_)
    exact EX.fin1 [0] rfl rfl rfl ⟨by simp only [place1, hp], rfl⟩


/-- Bind, as the table answers it. -/
def Scope.bind (S : Scope) (s : ByteArray) (x : Int) : Int × Scope := match posOf s S.ents with | some _ => (13, S) | none => (0, ⟨S.ents ++ [(s, x)], S.levels⟩)
theorem lvOf_top {S : Scope} (h : S.Ok) {i : Nat} (hi : S.ents.length ≤ i) : lvOf S.levels i = S.levels.length := by
  unfold lvOf
  rw [List.filter_eq_self.2]
  intro l hl
  have := h.within l hl
  simpa using Nat.le_trans this hi
theorem lvls_bind {S : Scope} (h : S.Ok) (s : ByteArray) (x : Int) : lvls ⟨S.ents ++ [(s, x)], S.levels⟩ = lvls S ++ [S.levels.length] := by
  simp only [lvls, List.length_append, List.length_singleton, List.range_succ, List.map_append, List.map_cons, List.map_nil]
  rw [lvOf_top h (Nat.le_refl _)]
theorem lvls_push {S : Scope} (m : Nat) : lvls ⟨S.ents, S.levels ++ List.replicate m S.ents.length⟩ = lvls S := by
  simp only [lvls]
  apply List.map_congr_left
  intro i hi
  have hi' : i < S.ents.length := by simpa using hi
  simp only [lvOf, List.filter_append, List.length_append]
  have : (List.replicate m S.ents.length).filter (fun l => decide (l ≤ i)) = [] := by
    rw [List.filter_eq_nil_iff]
    intro l hl
    rw [List.eq_of_mem_replicate hl]
    simp; omega
  rw [this]; rfl
/-- The level of a name's place, against a level that begins at f. -/
theorem lvOf_le {S : Scope} (h : S.Ok) {j f : Nat} (hf : S.levels[j]? = some f) (i : Nat) : lvOf S.levels i ≤ j ↔ i < f := by
  obtain ⟨hj, hjf⟩ := List.getElem?_eq_some_iff.1 hf
  have hsplit : S.levels = S.levels.take j ++ S.levels.drop j := (List.take_append_drop _ _).symm
  constructor
  · intro hle
    rcases Nat.lt_or_ge i f with h1 | h1
    · exact h1
    · exfalso
      have hall : ((S.levels.take (j + 1)).filter (fun l => decide (l ≤ i))) = S.levels.take (j + 1) := by
        rw [List.filter_eq_self]
        intro l hl
        obtain ⟨q, hq, rfl⟩ := List.mem_take_iff_getElem.1 hl
        have : S.levels[q]'(by omega) ≤ S.levels[j] := by
          rcases Nat.lt_or_ge q j with h2 | h2
          · exact List.pairwise_iff_getElem.1 h.rising q j (by omega) hj h2
          · have : q = j := by omega
            subst this; exact Nat.le_refl _
        rw [hjf] at this
        simp; omega
      have h2 : (S.levels.take (j + 1)).length ≤ lvOf S.levels i := by
        unfold lvOf
        rw [← hall]
        exact ((List.take_sublist _ _).filter _).length_le
      rw [List.length_take] at h2
      omega
  · intro hlt
    unfold lvOf
    rw [hsplit, List.filter_append]
    have : (S.levels.drop j).filter (fun l => decide (l ≤ i)) = [] := by
      rw [List.filter_eq_nil_iff]
      intro l hl
      obtain ⟨q, hq, rfl⟩ := List.mem_iff_getElem.1 hl
      rw [List.getElem_drop]
      simp at hq
      have : S.levels[j] ≤ S.levels[j + q]'(by omega) := by
        rcases Nat.eq_zero_or_pos q with h2 | h2
        · subst h2; exact Nat.le_refl _
        · exact List.pairwise_iff_getElem.1 h.rising j (j + q) hj (by omega) (by omega)
      rw [hjf] at this
      simp; omega
    rw [this, List.append_nil]
    exact Nat.le_trans (List.length_filter_le _ _) (by rw [List.length_take]; omega)
theorem lvls_pop {S : Scope} (h : S.Ok) {j f : Nat} (hf : S.levels[j]? = some f) : lvls ⟨S.ents.take f, S.levels.take j⟩ = (lvls S).take f := by
  have hfn : f ≤ S.ents.length := h.within f (by obtain ⟨h, e⟩ := List.getElem?_eq_some_iff.1 hf; exact e ▸ List.getElem_mem h)
  simp only [lvls, List.length_take, Nat.min_eq_left hfn]
  rw [← List.map_take, List.take_range, Nat.min_eq_left hfn]
  apply List.map_congr_left
  intro i hi
  have hi' : i < f := by simpa using hi
  unfold lvOf
  have hs : S.levels.filter (fun l => decide (l ≤ i)) = (S.levels.take j).filter (fun l => decide (l ≤ i)) := by
    have : (S.levels.drop j).filter (fun l => decide (l ≤ i)) = [] := by
      rw [List.filter_eq_nil_iff]
      intro l hl
      obtain ⟨q, hq, rfl⟩ := List.mem_iff_getElem.1 hl
      rw [List.getElem_drop]
      simp at hq
      obtain ⟨hj, hjf⟩ := List.getElem?_eq_some_iff.1 hf
      have : S.levels[j] ≤ S.levels[j + q]'(by omega) := by
        rcases Nat.eq_zero_or_pos q with h2 | h2
        · subst h2; exact Nat.le_refl _
        · exact List.pairwise_iff_getElem.1 h.rising j (j + q) hj (by omega) (by omega)
      rw [hjf] at this
      simp; omega
    conv => lhs; rw [← List.take_append_drop j S.levels, List.filter_append, this, List.append_nil]
  rw [hs]


theorem rbind_any (r : Nat) (S : Scope) (s : ByteArray) (x : Int) (hE : S.ents.length ≤ 1000000) :
    FS Try.prog 9 [.pointer (some ⟨r, 0, none⟩), .string s, .int .i64 x] (nothing) [refAt r S] (fun v H => v = .int .i64 (S.bind s x).1 ∧ H = [refAt r (S.bind s x).2]) := by
  refine FS.intro (N := 44) Try.func9 rfl rfl rfl (fun F w0 hF => ?_)
  refine CW.seq ?_
  refine CW.region ?_
  refine OL.q (Y.assign rfl) rfl ?_
  refine OL.nil ?_
  refine EX.seq ?_
  refine CW.seq ?_
  refine CW.seq ?_
  refine CW.region ?_
  refine OL.q (Y.move rfl) rfl ?_
  refine OL.q (Y.move rfl) rfl ?_
  refine OL.call [0] (rfind_any r S s hE) Try.call18 rfl rfl rfl rfl (Ent.nothing _) rfl ?_
  rintro _ _ ⟨rfl, rfl⟩
  refine ⟨rfl, rfl, ?_⟩
  refine OL.q (Y.geq rfl rfl) rfl ?_
  refine OL.nil ?_
  refine EX.seq ?_
  refine CW.cond rfl (fun h0 => ?_) (fun h0 => ?_)
  · repeat (first | replace h0 := yes h0 | replace h0 := no h0 | replace h0 := nyes h0 | replace h0 := nno h0)
    refine CW.seq ?_
    refine CW.region ?_
    refine OL.q (Y.assign rfl) rfl ?_
    refine OL.nil ?_
    refine EX.seq ?_
    refine CW.ret ?_
    refine EX.retT ?_
    obtain ⟨k, hk⟩ : ∃ k, posOf s S.ents = some k := by
      cases hp : posOf s S.ents with
      | none => simp [place1, hp] at h0
      | some k => exact ⟨k, rfl⟩
    have he : S.bind s x = (13, S) := by simp [Scope.bind, hk]
    exact EX.fin1 [0] rfl rfl rfl (by rw [he]; exact ⟨rfl, rfl⟩)
  · repeat (first | replace h0 := yes h0 | replace h0 := no h0 | replace h0 := nyes h0 | replace h0 := nno h0)
    have hk : posOf s S.ents = none := by
      cases hp : posOf s S.ents with
      | none => rfl
      | some k => simp [place1, hp] at h0
    have he : S.bind s x = (0, ⟨S.ents ++ [(s, x)], S.levels⟩) := by simp [Scope.bind, hk]
    refine CW.read _ (refL r S) ref_open ?_
    rintro v ⟨hn, ⟨e1, e2, e3⟩, c1, c2, c3⟩
    refine CW.skip ?_
    refine EX.seq ?_
    refine CW.seq ?_
    refine CW.region ?_
    refine OL.q (Y.move rfl) rfl ?_
    refine OL.q (Y.move rfl) rfl ?_
    refine OL.q (Y.nilCheck rfl) rfl ?_
    refine OL.q (Y.field L30_0 rfl) rfl ?_
    first | refine OL.q (Y.load T23 rfl (Ent.at 0 rfl (Up.cellIs _ _ _) (blk_cell rfl))) rfl ?_ | refine OL.q (Y.load T23 rfl (Ent.at 1 rfl (Up.cellIs _ _ _) (blk_cell rfl))) rfl ?_ | refine OL.q (Y.load T23 rfl (Ent.at 2 rfl (Up.cellIs _ _ _) (blk_cell rfl))) rfl ?_ | refine OL.q (Y.load T23 rfl (Ent.at 3 rfl (Up.cellIs _ _ _) (blk_cell rfl))) rfl ?_ | refine OL.q (Y.load T23 rfl (Ent.at 4 rfl (Up.cellIs _ _ _) (blk_cell rfl))) rfl ?_ | refine OL.q (Y.load T23 rfl (Ent.at 5 rfl (Up.cellIs _ _ _) (blk_cell rfl))) rfl ?_
    refine OL.q (Y.move rfl) rfl ?_
    refine OL.buildSlice (_) Try.underlying23 C9 (by decide) rfl (by decide) rfl rfl rfl (fun b17 => ⟨rfl, rfl, ?_⟩)
    first | refine OL.append _ 0 rfl Try.underlying23 E9 rfl rfl (Ent.at 1 rfl (Up.rd _ _ _ _) row_rd) rfl (by omega) (by omega) rfl (fun a18 c18 => ⟨rfl, rfl, ?_⟩) | refine OL.append _ 0 rfl Try.underlying23 E9 rfl rfl (Ent.at 2 rfl (Up.rd _ _ _ _) row_rd) rfl (by omega) (by omega) rfl (fun a18 c18 => ⟨rfl, rfl, ?_⟩) | refine OL.append _ 0 rfl Try.underlying23 E9 rfl rfl (Ent.at 3 rfl (Up.rd _ _ _ _) row_rd) rfl (by omega) (by omega) rfl (fun a18 c18 => ⟨rfl, rfl, ?_⟩) | refine OL.append _ 0 rfl Try.underlying23 E9 rfl rfl (Ent.at 4 rfl (Up.rd _ _ _ _) row_rd) rfl (by omega) (by omega) rfl (fun a18 c18 => ⟨rfl, rfl, ?_⟩) | refine OL.append _ 0 rfl Try.underlying23 E9 rfl rfl (Ent.at 5 rfl (Up.rd _ _ _ _) row_rd) rfl (by omega) (by omega) rfl (fun a18 c18 => ⟨rfl, rfl, ?_⟩) | refine OL.append _ 1 rfl Try.underlying23 E9 rfl rfl (Ent.at 0 rfl (Up.rd _ _ _ _) row_rd) rfl (by omega) (by omega) rfl (fun a18 c18 => ⟨rfl, rfl, ?_⟩) | refine OL.append _ 1 rfl Try.underlying23 E9 rfl rfl (Ent.at 2 rfl (Up.rd _ _ _ _) row_rd) rfl (by omega) (by omega) rfl (fun a18 c18 => ⟨rfl, rfl, ?_⟩) | refine OL.append _ 1 rfl Try.underlying23 E9 rfl rfl (Ent.at 3 rfl (Up.rd _ _ _ _) row_rd) rfl (by omega) (by omega) rfl (fun a18 c18 => ⟨rfl, rfl, ?_⟩) | refine OL.append _ 1 rfl Try.underlying23 E9 rfl rfl (Ent.at 4 rfl (Up.rd _ _ _ _) row_rd) rfl (by omega) (by omega) rfl (fun a18 c18 => ⟨rfl, rfl, ?_⟩) | refine OL.append _ 1 rfl Try.underlying23 E9 rfl rfl (Ent.at 5 rfl (Up.rd _ _ _ _) row_rd) rfl (by omega) (by omega) rfl (fun a18 c18 => ⟨rfl, rfl, ?_⟩) | refine OL.append _ 2 rfl Try.underlying23 E9 rfl rfl (Ent.at 0 rfl (Up.rd _ _ _ _) row_rd) rfl (by omega) (by omega) rfl (fun a18 c18 => ⟨rfl, rfl, ?_⟩) | refine OL.append _ 2 rfl Try.underlying23 E9 rfl rfl (Ent.at 1 rfl (Up.rd _ _ _ _) row_rd) rfl (by omega) (by omega) rfl (fun a18 c18 => ⟨rfl, rfl, ?_⟩) | refine OL.append _ 2 rfl Try.underlying23 E9 rfl rfl (Ent.at 3 rfl (Up.rd _ _ _ _) row_rd) rfl (by omega) (by omega) rfl (fun a18 c18 => ⟨rfl, rfl, ?_⟩) | refine OL.append _ 2 rfl Try.underlying23 E9 rfl rfl (Ent.at 4 rfl (Up.rd _ _ _ _) row_rd) rfl (by omega) (by omega) rfl (fun a18 c18 => ⟨rfl, rfl, ?_⟩) | refine OL.append _ 2 rfl Try.underlying23 E9 rfl rfl (Ent.at 5 rfl (Up.rd _ _ _ _) row_rd) rfl (by omega) (by omega) rfl (fun a18 c18 => ⟨rfl, rfl, ?_⟩) | refine OL.append _ 3 rfl Try.underlying23 E9 rfl rfl (Ent.at 0 rfl (Up.rd _ _ _ _) row_rd) rfl (by omega) (by omega) rfl (fun a18 c18 => ⟨rfl, rfl, ?_⟩) | refine OL.append _ 3 rfl Try.underlying23 E9 rfl rfl (Ent.at 1 rfl (Up.rd _ _ _ _) row_rd) rfl (by omega) (by omega) rfl (fun a18 c18 => ⟨rfl, rfl, ?_⟩) | refine OL.append _ 3 rfl Try.underlying23 E9 rfl rfl (Ent.at 2 rfl (Up.rd _ _ _ _) row_rd) rfl (by omega) (by omega) rfl (fun a18 c18 => ⟨rfl, rfl, ?_⟩) | refine OL.append _ 3 rfl Try.underlying23 E9 rfl rfl (Ent.at 4 rfl (Up.rd _ _ _ _) row_rd) rfl (by omega) (by omega) rfl (fun a18 c18 => ⟨rfl, rfl, ?_⟩) | refine OL.append _ 3 rfl Try.underlying23 E9 rfl rfl (Ent.at 5 rfl (Up.rd _ _ _ _) row_rd) rfl (by omega) (by omega) rfl (fun a18 c18 => ⟨rfl, rfl, ?_⟩) | refine OL.append _ 4 rfl Try.underlying23 E9 rfl rfl (Ent.at 0 rfl (Up.rd _ _ _ _) row_rd) rfl (by omega) (by omega) rfl (fun a18 c18 => ⟨rfl, rfl, ?_⟩) | refine OL.append _ 4 rfl Try.underlying23 E9 rfl rfl (Ent.at 1 rfl (Up.rd _ _ _ _) row_rd) rfl (by omega) (by omega) rfl (fun a18 c18 => ⟨rfl, rfl, ?_⟩) | refine OL.append _ 4 rfl Try.underlying23 E9 rfl rfl (Ent.at 2 rfl (Up.rd _ _ _ _) row_rd) rfl (by omega) (by omega) rfl (fun a18 c18 => ⟨rfl, rfl, ?_⟩) | refine OL.append _ 4 rfl Try.underlying23 E9 rfl rfl (Ent.at 3 rfl (Up.rd _ _ _ _) row_rd) rfl (by omega) (by omega) rfl (fun a18 c18 => ⟨rfl, rfl, ?_⟩) | refine OL.append _ 4 rfl Try.underlying23 E9 rfl rfl (Ent.at 5 rfl (Up.rd _ _ _ _) row_rd) rfl (by omega) (by omega) rfl (fun a18 c18 => ⟨rfl, rfl, ?_⟩) | refine OL.append _ 5 rfl Try.underlying23 E9 rfl rfl (Ent.at 0 rfl (Up.rd _ _ _ _) row_rd) rfl (by omega) (by omega) rfl (fun a18 c18 => ⟨rfl, rfl, ?_⟩) | refine OL.append _ 5 rfl Try.underlying23 E9 rfl rfl (Ent.at 1 rfl (Up.rd _ _ _ _) row_rd) rfl (by omega) (by omega) rfl (fun a18 c18 => ⟨rfl, rfl, ?_⟩) | refine OL.append _ 5 rfl Try.underlying23 E9 rfl rfl (Ent.at 2 rfl (Up.rd _ _ _ _) row_rd) rfl (by omega) (by omega) rfl (fun a18 c18 => ⟨rfl, rfl, ?_⟩) | refine OL.append _ 5 rfl Try.underlying23 E9 rfl rfl (Ent.at 3 rfl (Up.rd _ _ _ _) row_rd) rfl (by omega) (by omega) rfl (fun a18 c18 => ⟨rfl, rfl, ?_⟩) | refine OL.append _ 5 rfl Try.underlying23 E9 rfl rfl (Ent.at 4 rfl (Up.rd _ _ _ _) row_rd) rfl (by omega) (by omega) rfl (fun a18 c18 => ⟨rfl, rfl, ?_⟩)
    refine OL.q (Y.nilCheck rfl) rfl ?_
    refine OL.q (Y.field L30_0 rfl) rfl ?_
    first | refine OL.store 0 rfl C23 rfl rfl rfl rfl rfl ⟨rfl, rfl, ?_⟩ | refine OL.store 1 rfl C23 rfl rfl rfl rfl rfl ⟨rfl, rfl, ?_⟩ | refine OL.store 2 rfl C23 rfl rfl rfl rfl rfl ⟨rfl, rfl, ?_⟩ | refine OL.store 3 rfl C23 rfl rfl rfl rfl rfl ⟨rfl, rfl, ?_⟩ | refine OL.store 4 rfl C23 rfl rfl rfl rfl rfl ⟨rfl, rfl, ?_⟩ | refine OL.store 5 rfl C23 rfl rfl rfl rfl rfl ⟨rfl, rfl, ?_⟩
    refine OL.nil ?_
    refine EX.seq ?_
    refine CW.seq ?_
    refine CW.region ?_
    refine OL.q (Y.move rfl) rfl ?_
    refine OL.q (Y.move rfl) rfl ?_
    refine OL.q (Y.nilCheck rfl) rfl ?_
    refine OL.q (Y.field L30_1 rfl) rfl ?_
    first | refine OL.q (Y.load T28 rfl (Ent.at 0 rfl (Up.cellIs _ _ _) (blk_cell rfl))) rfl ?_ | refine OL.q (Y.load T28 rfl (Ent.at 1 rfl (Up.cellIs _ _ _) (blk_cell rfl))) rfl ?_ | refine OL.q (Y.load T28 rfl (Ent.at 2 rfl (Up.cellIs _ _ _) (blk_cell rfl))) rfl ?_ | refine OL.q (Y.load T28 rfl (Ent.at 3 rfl (Up.cellIs _ _ _) (blk_cell rfl))) rfl ?_ | refine OL.q (Y.load T28 rfl (Ent.at 4 rfl (Up.cellIs _ _ _) (blk_cell rfl))) rfl ?_ | refine OL.q (Y.load T28 rfl (Ent.at 5 rfl (Up.cellIs _ _ _) (blk_cell rfl))) rfl ?_
    refine OL.q (Y.move rfl) rfl ?_
    refine OL.buildSlice (_) Try.underlying28 C3 (by decide) rfl (by decide) rfl rfl rfl (fun b27 => ⟨rfl, rfl, ?_⟩)
    first | refine OL.append _ 0 rfl Try.underlying28 E3 rfl rfl (Ent.at 1 rfl (Up.rd _ _ _ _) row_rd) rfl (by omega) (by omega) rfl (fun a28 c28 => ⟨rfl, rfl, ?_⟩) | refine OL.append _ 0 rfl Try.underlying28 E3 rfl rfl (Ent.at 2 rfl (Up.rd _ _ _ _) row_rd) rfl (by omega) (by omega) rfl (fun a28 c28 => ⟨rfl, rfl, ?_⟩) | refine OL.append _ 0 rfl Try.underlying28 E3 rfl rfl (Ent.at 3 rfl (Up.rd _ _ _ _) row_rd) rfl (by omega) (by omega) rfl (fun a28 c28 => ⟨rfl, rfl, ?_⟩) | refine OL.append _ 0 rfl Try.underlying28 E3 rfl rfl (Ent.at 4 rfl (Up.rd _ _ _ _) row_rd) rfl (by omega) (by omega) rfl (fun a28 c28 => ⟨rfl, rfl, ?_⟩) | refine OL.append _ 0 rfl Try.underlying28 E3 rfl rfl (Ent.at 5 rfl (Up.rd _ _ _ _) row_rd) rfl (by omega) (by omega) rfl (fun a28 c28 => ⟨rfl, rfl, ?_⟩) | refine OL.append _ 1 rfl Try.underlying28 E3 rfl rfl (Ent.at 0 rfl (Up.rd _ _ _ _) row_rd) rfl (by omega) (by omega) rfl (fun a28 c28 => ⟨rfl, rfl, ?_⟩) | refine OL.append _ 1 rfl Try.underlying28 E3 rfl rfl (Ent.at 2 rfl (Up.rd _ _ _ _) row_rd) rfl (by omega) (by omega) rfl (fun a28 c28 => ⟨rfl, rfl, ?_⟩) | refine OL.append _ 1 rfl Try.underlying28 E3 rfl rfl (Ent.at 3 rfl (Up.rd _ _ _ _) row_rd) rfl (by omega) (by omega) rfl (fun a28 c28 => ⟨rfl, rfl, ?_⟩) | refine OL.append _ 1 rfl Try.underlying28 E3 rfl rfl (Ent.at 4 rfl (Up.rd _ _ _ _) row_rd) rfl (by omega) (by omega) rfl (fun a28 c28 => ⟨rfl, rfl, ?_⟩) | refine OL.append _ 1 rfl Try.underlying28 E3 rfl rfl (Ent.at 5 rfl (Up.rd _ _ _ _) row_rd) rfl (by omega) (by omega) rfl (fun a28 c28 => ⟨rfl, rfl, ?_⟩) | refine OL.append _ 2 rfl Try.underlying28 E3 rfl rfl (Ent.at 0 rfl (Up.rd _ _ _ _) row_rd) rfl (by omega) (by omega) rfl (fun a28 c28 => ⟨rfl, rfl, ?_⟩) | refine OL.append _ 2 rfl Try.underlying28 E3 rfl rfl (Ent.at 1 rfl (Up.rd _ _ _ _) row_rd) rfl (by omega) (by omega) rfl (fun a28 c28 => ⟨rfl, rfl, ?_⟩) | refine OL.append _ 2 rfl Try.underlying28 E3 rfl rfl (Ent.at 3 rfl (Up.rd _ _ _ _) row_rd) rfl (by omega) (by omega) rfl (fun a28 c28 => ⟨rfl, rfl, ?_⟩) | refine OL.append _ 2 rfl Try.underlying28 E3 rfl rfl (Ent.at 4 rfl (Up.rd _ _ _ _) row_rd) rfl (by omega) (by omega) rfl (fun a28 c28 => ⟨rfl, rfl, ?_⟩) | refine OL.append _ 2 rfl Try.underlying28 E3 rfl rfl (Ent.at 5 rfl (Up.rd _ _ _ _) row_rd) rfl (by omega) (by omega) rfl (fun a28 c28 => ⟨rfl, rfl, ?_⟩) | refine OL.append _ 3 rfl Try.underlying28 E3 rfl rfl (Ent.at 0 rfl (Up.rd _ _ _ _) row_rd) rfl (by omega) (by omega) rfl (fun a28 c28 => ⟨rfl, rfl, ?_⟩) | refine OL.append _ 3 rfl Try.underlying28 E3 rfl rfl (Ent.at 1 rfl (Up.rd _ _ _ _) row_rd) rfl (by omega) (by omega) rfl (fun a28 c28 => ⟨rfl, rfl, ?_⟩) | refine OL.append _ 3 rfl Try.underlying28 E3 rfl rfl (Ent.at 2 rfl (Up.rd _ _ _ _) row_rd) rfl (by omega) (by omega) rfl (fun a28 c28 => ⟨rfl, rfl, ?_⟩) | refine OL.append _ 3 rfl Try.underlying28 E3 rfl rfl (Ent.at 4 rfl (Up.rd _ _ _ _) row_rd) rfl (by omega) (by omega) rfl (fun a28 c28 => ⟨rfl, rfl, ?_⟩) | refine OL.append _ 3 rfl Try.underlying28 E3 rfl rfl (Ent.at 5 rfl (Up.rd _ _ _ _) row_rd) rfl (by omega) (by omega) rfl (fun a28 c28 => ⟨rfl, rfl, ?_⟩) | refine OL.append _ 4 rfl Try.underlying28 E3 rfl rfl (Ent.at 0 rfl (Up.rd _ _ _ _) row_rd) rfl (by omega) (by omega) rfl (fun a28 c28 => ⟨rfl, rfl, ?_⟩) | refine OL.append _ 4 rfl Try.underlying28 E3 rfl rfl (Ent.at 1 rfl (Up.rd _ _ _ _) row_rd) rfl (by omega) (by omega) rfl (fun a28 c28 => ⟨rfl, rfl, ?_⟩) | refine OL.append _ 4 rfl Try.underlying28 E3 rfl rfl (Ent.at 2 rfl (Up.rd _ _ _ _) row_rd) rfl (by omega) (by omega) rfl (fun a28 c28 => ⟨rfl, rfl, ?_⟩) | refine OL.append _ 4 rfl Try.underlying28 E3 rfl rfl (Ent.at 3 rfl (Up.rd _ _ _ _) row_rd) rfl (by omega) (by omega) rfl (fun a28 c28 => ⟨rfl, rfl, ?_⟩) | refine OL.append _ 4 rfl Try.underlying28 E3 rfl rfl (Ent.at 5 rfl (Up.rd _ _ _ _) row_rd) rfl (by omega) (by omega) rfl (fun a28 c28 => ⟨rfl, rfl, ?_⟩) | refine OL.append _ 5 rfl Try.underlying28 E3 rfl rfl (Ent.at 0 rfl (Up.rd _ _ _ _) row_rd) rfl (by omega) (by omega) rfl (fun a28 c28 => ⟨rfl, rfl, ?_⟩) | refine OL.append _ 5 rfl Try.underlying28 E3 rfl rfl (Ent.at 1 rfl (Up.rd _ _ _ _) row_rd) rfl (by omega) (by omega) rfl (fun a28 c28 => ⟨rfl, rfl, ?_⟩) | refine OL.append _ 5 rfl Try.underlying28 E3 rfl rfl (Ent.at 2 rfl (Up.rd _ _ _ _) row_rd) rfl (by omega) (by omega) rfl (fun a28 c28 => ⟨rfl, rfl, ?_⟩) | refine OL.append _ 5 rfl Try.underlying28 E3 rfl rfl (Ent.at 3 rfl (Up.rd _ _ _ _) row_rd) rfl (by omega) (by omega) rfl (fun a28 c28 => ⟨rfl, rfl, ?_⟩) | refine OL.append _ 5 rfl Try.underlying28 E3 rfl rfl (Ent.at 4 rfl (Up.rd _ _ _ _) row_rd) rfl (by omega) (by omega) rfl (fun a28 c28 => ⟨rfl, rfl, ?_⟩)
    refine OL.q (Y.nilCheck rfl) rfl ?_
    refine OL.q (Y.field L30_1 rfl) rfl ?_
    first | refine OL.store 0 rfl C28 rfl rfl rfl rfl rfl ⟨rfl, rfl, ?_⟩ | refine OL.store 1 rfl C28 rfl rfl rfl rfl rfl ⟨rfl, rfl, ?_⟩ | refine OL.store 2 rfl C28 rfl rfl rfl rfl rfl ⟨rfl, rfl, ?_⟩ | refine OL.store 3 rfl C28 rfl rfl rfl rfl rfl ⟨rfl, rfl, ?_⟩ | refine OL.store 4 rfl C28 rfl rfl rfl rfl rfl ⟨rfl, rfl, ?_⟩ | refine OL.store 5 rfl C28 rfl rfl rfl rfl rfl ⟨rfl, rfl, ?_⟩
    refine OL.nil ?_
    refine EX.seq ?_
    refine CW.seq ?_
    refine CW.drawn [(true, 0), (true, 1), (true, 2), (true, 3), (true, 4), (true, 5), (true, 6), (true, 7), (true, 8), (false, 9), (false, 10)] [11, 12, 13] [0] mixed (by kernel_rfl) (by repeat (first | exact PanicOk.body | refine PanicOk.then ?_ | refine PanicOk.block ?_)) (by kernel_rfl) rfl rfl rfl rfl ?_
    refine OL.qt (Y.move rfl) rfl ?_
    refine OL.qt (Y.move rfl) rfl ?_
    refine OL.qt (Y.nilCheck rfl) rfl ?_
    refine OL.qt (Y.field L30_2 rfl) rfl ?_
    first | refine OL.qt (Y.load T28 rfl (Ent.at 0 rfl (Up.cellIs _ _ _) (blk_cell rfl))) rfl ?_ | refine OL.qt (Y.load T28 rfl (Ent.at 1 rfl (Up.cellIs _ _ _) (blk_cell rfl))) rfl ?_ | refine OL.qt (Y.load T28 rfl (Ent.at 2 rfl (Up.cellIs _ _ _) (blk_cell rfl))) rfl ?_ | refine OL.qt (Y.load T28 rfl (Ent.at 3 rfl (Up.cellIs _ _ _) (blk_cell rfl))) rfl ?_ | refine OL.qt (Y.load T28 rfl (Ent.at 4 rfl (Up.cellIs _ _ _) (blk_cell rfl))) rfl ?_ | refine OL.qt (Y.load T28 rfl (Ent.at 5 rfl (Up.cellIs _ _ _) (blk_cell rfl))) rfl ?_
    refine OL.qt (Y.move rfl) rfl ?_
    refine OL.qt (Y.nilCheck rfl) rfl ?_
    refine OL.qt (Y.field L30_3 rfl) rfl ?_
    first | refine OL.qt (Y.load T3 rfl (Ent.at 0 rfl (Up.cellIs _ _ _) (blk_cell rfl))) rfl ?_ | refine OL.qt (Y.load T3 rfl (Ent.at 1 rfl (Up.cellIs _ _ _) (blk_cell rfl))) rfl ?_ | refine OL.qt (Y.load T3 rfl (Ent.at 2 rfl (Up.cellIs _ _ _) (blk_cell rfl))) rfl ?_ | refine OL.qt (Y.load T3 rfl (Ent.at 3 rfl (Up.cellIs _ _ _) (blk_cell rfl))) rfl ?_ | refine OL.qt (Y.load T3 rfl (Ent.at 4 rfl (Up.cellIs _ _ _) (blk_cell rfl))) rfl ?_ | refine OL.qt (Y.load T3 rfl (Ent.at 5 rfl (Up.cellIs _ _ _) (blk_cell rfl))) rfl ?_
    refine OL.buildSlice ([[.int .i64 S.levels.length]]) Try.underlying28 C3 (by decide) rfl (by decide) rfl rfl rfl (fun b40 => ⟨rfl, rfl, ?_⟩)
    first | refine OL.append _ 3 rfl Try.underlying28 E3 rfl rfl (Ent.at 6 rfl (Up.rd _ _ _ _) row_rd) rfl (by omega) (by omega) rfl (fun a41 c41 => ⟨rfl, rfl, ?_⟩)
    refine OL.nil ?_
    refine EX.tail ?_
    refine OL.q (Y.nilCheck rfl) rfl ?_
    refine OL.q (Y.field L30_2 rfl) rfl ?_
    first | refine OL.store 0 rfl C28 rfl rfl rfl rfl rfl ⟨rfl, rfl, ?_⟩ | refine OL.store 1 rfl C28 rfl rfl rfl rfl rfl ⟨rfl, rfl, ?_⟩ | refine OL.store 2 rfl C28 rfl rfl rfl rfl rfl ⟨rfl, rfl, ?_⟩ | refine OL.store 3 rfl C28 rfl rfl rfl rfl rfl ⟨rfl, rfl, ?_⟩ | refine OL.store 4 rfl C28 rfl rfl rfl rfl rfl ⟨rfl, rfl, ?_⟩ | refine OL.store 5 rfl C28 rfl rfl rfl rfl rfl ⟨rfl, rfl, ?_⟩
    refine OL.nil ?_
    refine EX.seq ?_
    refine CW.seq ?_
    refine CW.region ?_
    refine OL.q (Y.assign rfl) rfl ?_
    refine OL.nil ?_
    refine EX.seq ?_
    refine CW.ret ?_
    refine EX.read (fun _ : Unit => True) (fun _ => [refAt r ⟨S.ents ++ [(s, x)], S.levels⟩]) (fun h hs => ⟨(), trivial, ref_shut (S := ⟨S.ents ++ [(s, x)], S.levels⟩) ⟨a18, v.nn + 1, c18, a28, v.tn + 1, c28, a41, v.an + 1, c41⟩ (ok_bind hn hk) h ?_⟩) (fun _ _ => ?_)
    · have h2 := hs.picked (is := [0, 1, 2, 3]) rfl
      have e6 : (S.ents ++ [(s, x)]).map (fun p => strCells p.1) = (S.ents.map fun p => strCells p.1) ++ [[.string s]] := by simp [strCells]
      have e7 : (S.ents ++ [(s, x)]).map (fun p => intCells p.2) = (S.ents.map fun p => intCells p.2) ++ [[.int .i64 x]] := by simp [intCells]
      have e8 : (lvls ⟨S.ents ++ [(s, x)], S.levels⟩).map numCells = (lvls S).map numCells ++ [[.int .i64 S.levels.length]] := by rw [lvls_bind hn]; simp [numCells]
      unfold refL
      rw [e6, e7, e8]
      exact h2
    · exact EX.fin1 [0] rfl rfl rfl (by rw [he]; exact ⟨rfl, rfl⟩)

theorem rpush_any (r : Nat) (S : Scope) (n : Int) (hS : S.levels.length ≤ 1000) :
    FS Try.prog 11 [.pointer (some ⟨r, 0, none⟩), .int .i64 n] (nothing) [refAt r S] (fun v H => v = .int .i64 (S.push n).1 ∧ H = [refAt r (S.push n).2]) := by
  refine FS.intro (N := 22) Try.func11 rfl rfl rfl (fun F w0 hF => ?_)
  refine CW.read _ (refL r S) ref_open ?_
  rintro v ⟨hn, ⟨e1, e2, e3⟩, c1, c2, c3⟩
  refine CW.seq ?_
  refine CW.region ?_
  refine OL.q (Y.assign rfl) rfl ?_
  refine OL.nil ?_
  refine EX.seq ?_
  refine CW.seq ?_
  refine CW.seq ?_
  refine CW.region ?_
  refine OL.q (Y.move rfl) rfl ?_
  refine OL.q (Y.lss rfl rfl) rfl ?_
  refine OL.nil ?_
  refine EX.seq ?_
  refine CW.cond rfl (fun h0 => ?_) (fun h0 => ?_)
  · repeat (first | replace h0 := yes h0 | replace h0 := no h0 | replace h0 := nyes h0 | replace h0 := nno h0)
    refine CW.seq ?_
    refine CW.region ?_
    refine OL.q (Y.assign rfl) rfl ?_
    refine OL.nil ?_
    refine EX.seq ?_
    refine CW.ret ?_
    refine EX.retT ?_
    have he : S.push n = (1, S) := by simp [Scope.push, h0]
    refine EX.read (fun _ : Unit => True) (fun _ => [refAt r S]) (fun h hs => ⟨(), trivial, ref_shut v hn h (hs.picked (is := [0, 1, 2, 3]) rfl)⟩) (fun _ _ => ?_)
    exact EX.fin1 [0] rfl rfl rfl (by rw [he]; exact ⟨rfl, rfl⟩)
  · repeat (first | replace h0 := yes h0 | replace h0 := no h0 | replace h0 := nyes h0 | replace h0 := nno h0)
    refine CW.skip ?_
    refine EX.seq ?_
    refine CW.seq ?_
    refine CW.seq ?_
    refine CW.region ?_
    refine OL.q (Y.move rfl) rfl ?_
    refine OL.q (Y.move rfl) rfl ?_
    refine OL.q (Y.nilCheck rfl) rfl ?_
    refine OL.q (Y.field L30_3 rfl) rfl ?_
    first | refine OL.q (Y.load T3 rfl (Ent.at 0 rfl (Up.cellIs _ _ _) (blk_cell rfl))) rfl ?_ | refine OL.q (Y.load T3 rfl (Ent.at 1 rfl (Up.cellIs _ _ _) (blk_cell rfl))) rfl ?_ | refine OL.q (Y.load T3 rfl (Ent.at 2 rfl (Up.cellIs _ _ _) (blk_cell rfl))) rfl ?_ | refine OL.q (Y.load T3 rfl (Ent.at 3 rfl (Up.cellIs _ _ _) (blk_cell rfl))) rfl ?_ | refine OL.q (Y.load T3 rfl (Ent.at 4 rfl (Up.cellIs _ _ _) (blk_cell rfl))) rfl ?_ | refine OL.q (Y.load T3 rfl (Ent.at 5 rfl (Up.cellIs _ _ _) (blk_cell rfl))) rfl ?_
    refine OL.q (Y.sub rfl rfl (by omega)) rfl ?_
    refine OL.q (Y.gtr rfl rfl) rfl ?_
    refine OL.nil ?_
    refine EX.seq ?_
    refine CW.cond rfl (fun h1 => ?_) (fun h1 => ?_)
    · repeat (first | replace h1 := yes h1 | replace h1 := no h1 | replace h1 := nyes h1 | replace h1 := nno h1)
      refine CW.seq ?_
      refine CW.region ?_
      refine OL.q (Y.assign rfl) rfl ?_
      refine OL.nil ?_
      refine EX.seq ?_
      refine CW.ret ?_
      refine EX.retT ?_
      have he : S.push n = (4, S) := by simp only [Scope.push, if_neg h0, if_pos h1]
      refine EX.read (fun _ : Unit => True) (fun _ => [refAt r S]) (fun h hs => ⟨(), trivial, ref_shut v hn h (hs.picked (is := [0, 1, 2, 3]) rfl)⟩) (fun _ _ => ?_)
      exact EX.fin1 [0] rfl rfl rfl (by rw [he]; exact ⟨rfl, rfl⟩)
    · repeat (first | replace h1 := yes h1 | replace h1 := no h1 | replace h1 := nyes h1 | replace h1 := nno h1)
      have he : S.push n = (0, ⟨S.ents, S.levels ++ List.replicate n.toNat S.ents.length⟩) := by simp only [Scope.push, if_neg h0, if_neg h1]
      obtain ⟨m, rfl⟩ := Int.eq_ofNat_of_zero_le (show 0 ≤ n by omega)
      rw [Int.toNat_natCast] at he
      refine CW.skip ?_
      refine EX.seq ?_
      refine CW.seq ?_
      refine CW.region ?_
      refine OL.q (Y.move rfl) rfl ?_
      refine OL.q (Y.nilCheck rfl) rfl ?_
      refine OL.q (Y.field L30_3 rfl) rfl ?_
      first | refine OL.q (Y.load T3 rfl (Ent.at 0 rfl (Up.cellIs _ _ _) (blk_cell rfl))) rfl ?_ | refine OL.q (Y.load T3 rfl (Ent.at 1 rfl (Up.cellIs _ _ _) (blk_cell rfl))) rfl ?_ | refine OL.q (Y.load T3 rfl (Ent.at 2 rfl (Up.cellIs _ _ _) (blk_cell rfl))) rfl ?_ | refine OL.q (Y.load T3 rfl (Ent.at 3 rfl (Up.cellIs _ _ _) (blk_cell rfl))) rfl ?_ | refine OL.q (Y.load T3 rfl (Ent.at 4 rfl (Up.cellIs _ _ _) (blk_cell rfl))) rfl ?_ | refine OL.q (Y.load T3 rfl (Ent.at 5 rfl (Up.cellIs _ _ _) (blk_cell rfl))) rfl ?_
      refine OL.q (Y.move rfl) rfl ?_
      first | refine OL.q (Y.add1 rfl rfl rfl (by omega)) rfl ?_ | refine OL.q (Y.addN rfl rfl (by omega)) rfl ?_ | refine OL.q (Y.add rfl rfl (by omega)) rfl ?_
      refine OL.q (Y.nilCheck rfl) rfl ?_
      refine OL.q (Y.field L30_3 rfl) rfl ?_
      first | refine OL.store 0 rfl C3 rfl rfl rfl rfl rfl ⟨rfl, rfl, ?_⟩ | refine OL.store 1 rfl C3 rfl rfl rfl rfl rfl ⟨rfl, rfl, ?_⟩ | refine OL.store 2 rfl C3 rfl rfl rfl rfl rfl ⟨rfl, rfl, ?_⟩ | refine OL.store 3 rfl C3 rfl rfl rfl rfl rfl ⟨rfl, rfl, ?_⟩ | refine OL.store 4 rfl C3 rfl rfl rfl rfl rfl ⟨rfl, rfl, ?_⟩ | refine OL.store 5 rfl C3 rfl rfl rfl rfl rfl ⟨rfl, rfl, ?_⟩
      refine OL.nil ?_
      refine EX.seq ?_
      refine CW.seq ?_
      refine CW.region ?_
      refine OL.q (Y.assign rfl) rfl ?_
      refine OL.nil ?_
      refine EX.seq ?_
      refine CW.ret ?_
      refine EX.read (fun _ : Unit => True) (fun _ => [refAt r ⟨S.ents, S.levels ++ List.replicate m S.ents.length⟩]) (fun h hs => ⟨(), trivial, ref_shut (S := ⟨S.ents, S.levels ++ List.replicate m S.ents.length⟩) v (ok_push m hn) h ?_⟩) (fun _ _ => ?_)
      · have h2 := hs.picked (is := [0, 1, 2, 3]) rfl
        unfold refL
        rw [lvls_push]
        have e5 : ((S.levels ++ List.replicate m S.ents.length).length : Int) = (S.levels.length : Int) + m := by simp
        rw [e5]
        exact h2
      · exact EX.fin1 [0] rfl rfl rfl (by rw [he]; exact ⟨rfl, rfl⟩)

theorem rpop_any (r : Nat) (S : Scope) (n : Int) (hS : S.levels.length ≤ 1000) (hE : S.ents.length ≤ 1000000) :
    FS Try.prog 13 [.pointer (some ⟨r, 0, none⟩), .int .i64 n] (nothing) [refAt r S] (fun v H => v = .int .i64 (S.pop n).1 ∧ H = [refAt r (S.pop n).2]) := by
  refine FS.intro (N := 72) Try.func13 rfl rfl rfl (fun F w0 hF => ?_)
  refine CW.read _ (refL r S) ref_open ?_
  rintro v ⟨hn, ⟨e1, e2, e3⟩, c1, c2, c3⟩
  refine CW.seq ?_
  refine CW.region ?_
  refine OL.q (Y.assign rfl) rfl ?_
  refine OL.nil ?_
  refine EX.seq ?_
  refine CW.seq ?_
  refine CW.seq ?_
  refine CW.region ?_
  refine OL.q (Y.move rfl) rfl ?_
  refine OL.q (Y.lss rfl rfl) rfl ?_
  refine OL.nil ?_
  refine EX.seq ?_
  refine CW.cond rfl (fun h0 => ?_) (fun h0 => ?_)
  · repeat (first | replace h0 := yes h0 | replace h0 := no h0 | replace h0 := nyes h0 | replace h0 := nno h0)
    refine CW.seq ?_
    refine CW.region ?_
    refine OL.q (Y.assign rfl) rfl ?_
    refine OL.nil ?_
    refine EX.seq ?_
    refine CW.ret ?_
    refine EX.retT ?_
    have he : S.pop n = (1, S) := by simp [Scope.pop, h0]
    refine EX.read (fun _ : Unit => True) (fun _ => [refAt r S]) (fun h hs => ⟨(), trivial, ref_shut v hn h (hs.picked (is := [0, 1, 2, 3]) rfl)⟩) (fun _ _ => ?_)
    exact EX.fin1 [0] rfl rfl rfl (by rw [he]; exact ⟨rfl, rfl⟩)
  · repeat (first | replace h0 := yes h0 | replace h0 := no h0 | replace h0 := nyes h0 | replace h0 := nno h0)
    refine CW.skip ?_
    refine EX.seq ?_
    refine CW.seq ?_
    refine CW.seq ?_
    refine CW.region ?_
    refine OL.q (Y.move rfl) rfl ?_
    refine OL.q (Y.move rfl) rfl ?_
    refine OL.q (Y.nilCheck rfl) rfl ?_
    refine OL.q (Y.field L30_3 rfl) rfl ?_
    first | refine OL.q (Y.load T3 rfl (Ent.at 0 rfl (Up.cellIs _ _ _) (blk_cell rfl))) rfl ?_ | refine OL.q (Y.load T3 rfl (Ent.at 1 rfl (Up.cellIs _ _ _) (blk_cell rfl))) rfl ?_ | refine OL.q (Y.load T3 rfl (Ent.at 2 rfl (Up.cellIs _ _ _) (blk_cell rfl))) rfl ?_ | refine OL.q (Y.load T3 rfl (Ent.at 3 rfl (Up.cellIs _ _ _) (blk_cell rfl))) rfl ?_ | refine OL.q (Y.load T3 rfl (Ent.at 4 rfl (Up.cellIs _ _ _) (blk_cell rfl))) rfl ?_ | refine OL.q (Y.load T3 rfl (Ent.at 5 rfl (Up.cellIs _ _ _) (blk_cell rfl))) rfl ?_
    refine OL.q (Y.gtr rfl rfl) rfl ?_
    refine OL.nil ?_
    refine EX.seq ?_
    refine CW.cond rfl (fun h1 => ?_) (fun h1 => ?_)
    · repeat (first | replace h1 := yes h1 | replace h1 := no h1 | replace h1 := nyes h1 | replace h1 := nno h1)
      refine CW.seq ?_
      refine CW.region ?_
      refine OL.q (Y.assign rfl) rfl ?_
      refine OL.nil ?_
      refine EX.seq ?_
      refine CW.ret ?_
      refine EX.retT ?_
      have he : S.pop n = (2, S) := by simp only [Scope.pop, if_neg h0, if_pos h1]
      refine EX.read (fun _ : Unit => True) (fun _ => [refAt r S]) (fun h hs => ⟨(), trivial, ref_shut v hn h (hs.picked (is := [0, 1, 2, 3]) rfl)⟩) (fun _ _ => ?_)
      exact EX.fin1 [0] rfl rfl rfl (by rw [he]; exact ⟨rfl, rfl⟩)
    · repeat (first | replace h1 := yes h1 | replace h1 := no h1 | replace h1 := nyes h1 | replace h1 := nno h1)
      obtain ⟨m, rfl⟩ := Int.eq_ofNat_of_zero_le (show 0 ≤ n by omega)
      obtain ⟨j, hje⟩ : ∃ j, j = S.levels.length - m := ⟨_, rfl⟩
      obtain ⟨f, hfn, hfl, he⟩ : ∃ f, f ≤ S.ents.length ∧ (∀ i, i < S.ents.length → (lvOf S.levels i ≤ j ↔ i < f)) ∧ S.pop (m : Int) = (0, ⟨S.ents.take f, S.levels.take j⟩) ∧ (⟨S.ents.take f, S.levels.take j⟩ : Scope).Ok ∧ lvls ⟨S.ents.take f, S.levels.take j⟩ = (lvls S).take f := by
        by_cases h2 : m = 0
        · subst h2
          have hj : j = S.levels.length := by omega
          refine ⟨S.ents.length, Nat.le_refl _, fun i hi => ⟨fun _ => hi, fun _ => ?_⟩, ?_⟩
          · rw [hj]; exact List.length_filter_le _ _
          · rw [hj, List.take_length, List.take_length]
            refine ⟨by simp [Scope.pop], hn, ?_⟩
            rw [List.take_of_length_le (by simp [lvls])]
        · have hj : j < S.levels.length := by omega
          obtain ⟨f, hf⟩ : ∃ f, S.levels[j]? = some f := ⟨_, List.getElem?_eq_getElem hj⟩
          have hm0 : ¬ (m : Int) = 0 := by omega
          refine ⟨f, hn.within f (by obtain ⟨h, e⟩ := List.getElem?_eq_some_iff.1 hf; exact e ▸ List.getElem_mem h), fun i _ => lvOf_le hn hf i, ?_, ok_pop hn hf, lvls_pop hn hf⟩
          simp only [Scope.pop, if_neg h0, if_neg h1, if_neg hm0, Int.toNat_natCast, ← hje, List.getD_eq_getElem?_getD, hf, Option.getD_some]
      obtain ⟨he, hok, hlv⟩ := he
      refine CW.skip ?_
      refine EX.seq ?_
      refine CW.seq ?_
      refine CW.region ?_
      refine OL.q (Y.move rfl) rfl ?_
      refine OL.q (Y.nilCheck rfl) rfl ?_
      refine OL.q (Y.field L30_3 rfl) rfl ?_
      first | refine OL.q (Y.load T3 rfl (Ent.at 0 rfl (Up.cellIs _ _ _) (blk_cell rfl))) rfl ?_ | refine OL.q (Y.load T3 rfl (Ent.at 1 rfl (Up.cellIs _ _ _) (blk_cell rfl))) rfl ?_ | refine OL.q (Y.load T3 rfl (Ent.at 2 rfl (Up.cellIs _ _ _) (blk_cell rfl))) rfl ?_ | refine OL.q (Y.load T3 rfl (Ent.at 3 rfl (Up.cellIs _ _ _) (blk_cell rfl))) rfl ?_ | refine OL.q (Y.load T3 rfl (Ent.at 4 rfl (Up.cellIs _ _ _) (blk_cell rfl))) rfl ?_ | refine OL.q (Y.load T3 rfl (Ent.at 5 rfl (Up.cellIs _ _ _) (blk_cell rfl))) rfl ?_
      refine OL.q (Y.move rfl) rfl ?_
      refine OL.q (Y.sub rfl rfl (by omega)) rfl ?_
      refine OL.q (Y.nilCheck rfl) rfl ?_
      refine OL.q (Y.field L30_3 rfl) rfl ?_
      first | refine OL.store 0 rfl C3 rfl rfl rfl rfl rfl ⟨rfl, rfl, ?_⟩ | refine OL.store 1 rfl C3 rfl rfl rfl rfl rfl ⟨rfl, rfl, ?_⟩ | refine OL.store 2 rfl C3 rfl rfl rfl rfl rfl ⟨rfl, rfl, ?_⟩ | refine OL.store 3 rfl C3 rfl rfl rfl rfl rfl ⟨rfl, rfl, ?_⟩ | refine OL.store 4 rfl C3 rfl rfl rfl rfl rfl ⟨rfl, rfl, ?_⟩ | refine OL.store 5 rfl C3 rfl rfl rfl rfl rfl ⟨rfl, rfl, ?_⟩
      refine OL.nil ?_
      refine EX.seq ?_
      refine CW.seq ?_
      refine CW.region ?_
      refine OL.q (Y.assign rfl) rfl ?_
      refine OL.nil ?_
      refine EX.seq ?_
      refine CW.seq ?_
      refine CW.block ?_
      refine CW.loop (α := Nat) ⟨fun k => k ≤ f, fun k => [(0, .pointer (some ⟨r, 0, none⟩)), (5, .int .i64 k)],
          fun _ => [blk r [.slice v.na v.nn v.nc, .slice v.ta v.tn v.tc, .slice v.aa v.an v.ac, .int .i64 ((S.levels.length : Int) - m)] 30, row v.na v.nn v.nc 9 1 (S.ents.map fun p => strCells p.1), row v.ta v.tn v.tc 3 1 (S.ents.map fun p => intCells p.2), row v.aa v.an v.ac 3 1 ((lvls S).map numCells)]⟩
        (fun k => f - k) 0 [0, 1, 2, 3] (Nat.zero_le _) ⟨rfl, rfl, trivial⟩ rfl rfl ?_
      intro k hk
      dsimp only at hk ⊢
      refine CW.seq ?_
      refine CW.seq ?_
      refine CW.drawn [(true, 0), (true, 1), (true, 2), (true, 3), (true, 4), (true, 5), (true, 6), (true, 7), (true, 8), (true, 9), (true, 10), (true, 11), (true, 12), (true, 13), (true, 14), (true, 15), (true, 16), (true, 17), (true, 18), (true, 19), (true, 20)] [] [0, 3] mixed (by kernel_rfl) (by repeat (first | exact PanicOk.body | refine PanicOk.then ?_ | refine PanicOk.block ?_)) (by kernel_rfl) rfl rfl rfl rfl ?_
      refine OL.qt (Y.move rfl) rfl ?_
      refine OL.qt (Y.move rfl) rfl ?_
      refine OL.qt (Y.nilCheck rfl) rfl ?_
      refine OL.qt (Y.field L30_0 rfl) rfl ?_
      first | refine OL.qt (Y.load T23 rfl (Ent.at 0 rfl (Up.cellIs _ _ _) (blk_cell rfl))) rfl ?_ | refine OL.qt (Y.load T23 rfl (Ent.at 1 rfl (Up.cellIs _ _ _) (blk_cell rfl))) rfl ?_ | refine OL.qt (Y.load T23 rfl (Ent.at 2 rfl (Up.cellIs _ _ _) (blk_cell rfl))) rfl ?_ | refine OL.qt (Y.load T23 rfl (Ent.at 3 rfl (Up.cellIs _ _ _) (blk_cell rfl))) rfl ?_ | refine OL.qt (Y.load T23 rfl (Ent.at 4 rfl (Up.cellIs _ _ _) (blk_cell rfl))) rfl ?_ | refine OL.qt (Y.load T23 rfl (Ent.at 5 rfl (Up.cellIs _ _ _) (blk_cell rfl))) rfl ?_
      refine OL.qt (Y.lenSl Try.underlying23 rfl) rfl ?_
      refine OL.qt (Y.lss rfl rfl) rfl ?_
      refine OL.qt (Y.move rfl) rfl ?_
      refine OL.guard (s := 29) rfl (fun g7_7 => ?_) (fun g7_7 => ?_)
      · have ng7_7 := g7_7
        repeat (first | replace ng7_7 := yes ng7_7 | replace ng7_7 := no ng7_7 | replace ng7_7 := nyes ng7_7 | replace ng7_7 := nno ng7_7)
        have hkn : k < S.ents.length := by omega
        have hq : ((lvls S).map numCells)[k]? = some [.int .i64 (lvOf S.levels k)] := by simp [lvls, hkn, numCells]
        have hkf := hfl k hkn
        refine OL.ont g7_7 rfl rfl ?_
        refine OL.qt (Y.move rfl) rfl ?_
        refine OL.ont g7_7 rfl rfl ?_
        refine OL.qt (Y.nilCheck rfl) rfl ?_
        refine OL.ont g7_7 rfl rfl ?_
        refine OL.qt (Y.field L30_2 rfl) rfl ?_
        refine OL.ont g7_7 rfl rfl ?_
        first | refine OL.qt (Y.load T28 rfl (Ent.at 0 rfl (Up.cellIs _ _ _) (blk_cell rfl))) rfl ?_ | refine OL.qt (Y.load T28 rfl (Ent.at 1 rfl (Up.cellIs _ _ _) (blk_cell rfl))) rfl ?_ | refine OL.qt (Y.load T28 rfl (Ent.at 2 rfl (Up.cellIs _ _ _) (blk_cell rfl))) rfl ?_ | refine OL.qt (Y.load T28 rfl (Ent.at 3 rfl (Up.cellIs _ _ _) (blk_cell rfl))) rfl ?_ | refine OL.qt (Y.load T28 rfl (Ent.at 4 rfl (Up.cellIs _ _ _) (blk_cell rfl))) rfl ?_ | refine OL.qt (Y.load T28 rfl (Ent.at 5 rfl (Up.cellIs _ _ _) (blk_cell rfl))) rfl ?_
        refine OL.ont g7_7 rfl rfl ?_
        refine OL.qt (Y.move rfl) rfl ?_
        refine OL.ont g7_7 rfl rfl ?_
        refine OL.qt (Y.index Try.underlying28 C3 rfl rfl (Ent.at 1 rfl (Up.rd _ _ _ _) row_rd) rfl (by omega)) rfl ?_
        refine OL.ont g7_7 rfl rfl ?_
        refine OL.qt (Y.load T3 rfl (cellsIs_at0 (rd_at (Ent.at 1 rfl (Up.rd _ _ _ _) row_rd) hq) rfl)) rfl ?_
        refine OL.ont g7_7 rfl rfl ?_
        refine OL.qt (Y.move rfl) rfl ?_
        refine OL.ont g7_7 rfl rfl ?_
        refine OL.qt (Y.nilCheck rfl) rfl ?_
        refine OL.ont g7_7 rfl rfl ?_
        refine OL.qt (Y.field L30_3 rfl) rfl ?_
        refine OL.ont g7_7 rfl rfl ?_
        first | refine OL.qt (Y.load T3 rfl (Ent.at 0 rfl (Up.cellIs _ _ _) (blk_cell rfl))) rfl ?_ | refine OL.qt (Y.load T3 rfl (Ent.at 1 rfl (Up.cellIs _ _ _) (blk_cell rfl))) rfl ?_ | refine OL.qt (Y.load T3 rfl (Ent.at 2 rfl (Up.cellIs _ _ _) (blk_cell rfl))) rfl ?_ | refine OL.qt (Y.load T3 rfl (Ent.at 3 rfl (Up.cellIs _ _ _) (blk_cell rfl))) rfl ?_ | refine OL.qt (Y.load T3 rfl (Ent.at 4 rfl (Up.cellIs _ _ _) (blk_cell rfl))) rfl ?_ | refine OL.qt (Y.load T3 rfl (Ent.at 5 rfl (Up.cellIs _ _ _) (blk_cell rfl))) rfl ?_
        refine OL.ont g7_7 rfl rfl ?_
        refine OL.qt (Y.leq rfl rfl) rfl ?_
        refine OL.qt (Y.pickT rfl g7_7 rfl) rfl ?_
        refine OL.nil ?_
        refine EX.tail ?_
        refine OL.nil ?_
        refine EX.seq ?_
        refine CW.cond rfl (fun h2 => ?_) (fun h2 => ?_)
        · repeat (first | replace h2 := yes h2 | replace h2 := no h2 | replace h2 := nyes h2 | replace h2 := nno h2)
          have hkf2 : k < f := by omega
          refine CW.skip ?_
          refine EX.seq ?_
          refine CW.block ?_
          refine CW.region ?_
          refine OL.q (Y.move rfl) rfl ?_
          first | refine OL.q (Y.add1 rfl rfl rfl (by omega)) rfl ?_ | refine OL.q (Y.addN rfl rfl (by omega)) rfl ?_ | refine OL.q (Y.add rfl rfl (by omega)) rfl ?_
          refine OL.q (Y.assign rfl) rfl ?_
          refine OL.nil ?_
          refine EX.norB ?_
          refine EX.next (k + 1) [0, 1, 2, 3] (show k + 1 ≤ f by omega) (show f - (k + 1) < f - k by omega) ⟨rfl, rfl, trivial⟩ rfl rfl
        · repeat (first | replace h2 := yes h2 | replace h2 := no h2 | replace h2 := nyes h2 | replace h2 := nno h2)
          have hkf3 : k = f := by omega
          refine CW.exit ?_
          refine EX.exitT ?_
          refine EX.exitT ?_
          refine EX.exitB ?_
          refine EX.seq ?_
          refine CW.seq ?_
          refine CW.region ?_
          refine OL.q (Y.move rfl) rfl ?_
          refine OL.q (Y.move rfl) rfl ?_
          refine OL.q (Y.nilCheck rfl) rfl ?_
          refine OL.q (Y.field L30_0 rfl) rfl ?_
          first | refine OL.q (Y.load T23 rfl (Ent.at 0 rfl (Up.cellIs _ _ _) (blk_cell rfl))) rfl ?_ | refine OL.q (Y.load T23 rfl (Ent.at 1 rfl (Up.cellIs _ _ _) (blk_cell rfl))) rfl ?_ | refine OL.q (Y.load T23 rfl (Ent.at 2 rfl (Up.cellIs _ _ _) (blk_cell rfl))) rfl ?_ | refine OL.q (Y.load T23 rfl (Ent.at 3 rfl (Up.cellIs _ _ _) (blk_cell rfl))) rfl ?_ | refine OL.q (Y.load T23 rfl (Ent.at 4 rfl (Up.cellIs _ _ _) (blk_cell rfl))) rfl ?_ | refine OL.q (Y.load T23 rfl (Ent.at 5 rfl (Up.cellIs _ _ _) (blk_cell rfl))) rfl ?_
          refine OL.q (Y.move rfl) rfl ?_
          refine OL.q (Y.sliceHi (k := f) Try.underlying23 C9 rfl rfl (by omega) (by omega)) rfl ?_
          refine OL.q (Y.nilCheck rfl) rfl ?_
          refine OL.q (Y.field L30_0 rfl) rfl ?_
          first | refine OL.store 0 rfl C23 rfl rfl rfl rfl rfl ⟨rfl, rfl, ?_⟩ | refine OL.store 1 rfl C23 rfl rfl rfl rfl rfl ⟨rfl, rfl, ?_⟩ | refine OL.store 2 rfl C23 rfl rfl rfl rfl rfl ⟨rfl, rfl, ?_⟩ | refine OL.store 3 rfl C23 rfl rfl rfl rfl rfl ⟨rfl, rfl, ?_⟩ | refine OL.store 4 rfl C23 rfl rfl rfl rfl rfl ⟨rfl, rfl, ?_⟩ | refine OL.store 5 rfl C23 rfl rfl rfl rfl rfl ⟨rfl, rfl, ?_⟩
          refine OL.nil ?_
          refine EX.seq ?_
          refine CW.seq ?_
          refine CW.region ?_
          refine OL.q (Y.move rfl) rfl ?_
          refine OL.q (Y.move rfl) rfl ?_
          refine OL.q (Y.nilCheck rfl) rfl ?_
          refine OL.q (Y.field L30_1 rfl) rfl ?_
          first | refine OL.q (Y.load T28 rfl (Ent.at 0 rfl (Up.cellIs _ _ _) (blk_cell rfl))) rfl ?_ | refine OL.q (Y.load T28 rfl (Ent.at 1 rfl (Up.cellIs _ _ _) (blk_cell rfl))) rfl ?_ | refine OL.q (Y.load T28 rfl (Ent.at 2 rfl (Up.cellIs _ _ _) (blk_cell rfl))) rfl ?_ | refine OL.q (Y.load T28 rfl (Ent.at 3 rfl (Up.cellIs _ _ _) (blk_cell rfl))) rfl ?_ | refine OL.q (Y.load T28 rfl (Ent.at 4 rfl (Up.cellIs _ _ _) (blk_cell rfl))) rfl ?_ | refine OL.q (Y.load T28 rfl (Ent.at 5 rfl (Up.cellIs _ _ _) (blk_cell rfl))) rfl ?_
          refine OL.q (Y.move rfl) rfl ?_
          refine OL.q (Y.sliceHi (k := f) Try.underlying28 C3 rfl rfl (by omega) (by omega)) rfl ?_
          refine OL.q (Y.nilCheck rfl) rfl ?_
          refine OL.q (Y.field L30_1 rfl) rfl ?_
          first | refine OL.store 0 rfl C28 rfl rfl rfl rfl rfl ⟨rfl, rfl, ?_⟩ | refine OL.store 1 rfl C28 rfl rfl rfl rfl rfl ⟨rfl, rfl, ?_⟩ | refine OL.store 2 rfl C28 rfl rfl rfl rfl rfl ⟨rfl, rfl, ?_⟩ | refine OL.store 3 rfl C28 rfl rfl rfl rfl rfl ⟨rfl, rfl, ?_⟩ | refine OL.store 4 rfl C28 rfl rfl rfl rfl rfl ⟨rfl, rfl, ?_⟩ | refine OL.store 5 rfl C28 rfl rfl rfl rfl rfl ⟨rfl, rfl, ?_⟩
          refine OL.nil ?_
          refine EX.seq ?_
          refine CW.seq ?_
          refine CW.region ?_
          refine OL.q (Y.move rfl) rfl ?_
          refine OL.q (Y.move rfl) rfl ?_
          refine OL.q (Y.nilCheck rfl) rfl ?_
          refine OL.q (Y.field L30_2 rfl) rfl ?_
          first | refine OL.q (Y.load T28 rfl (Ent.at 0 rfl (Up.cellIs _ _ _) (blk_cell rfl))) rfl ?_ | refine OL.q (Y.load T28 rfl (Ent.at 1 rfl (Up.cellIs _ _ _) (blk_cell rfl))) rfl ?_ | refine OL.q (Y.load T28 rfl (Ent.at 2 rfl (Up.cellIs _ _ _) (blk_cell rfl))) rfl ?_ | refine OL.q (Y.load T28 rfl (Ent.at 3 rfl (Up.cellIs _ _ _) (blk_cell rfl))) rfl ?_ | refine OL.q (Y.load T28 rfl (Ent.at 4 rfl (Up.cellIs _ _ _) (blk_cell rfl))) rfl ?_ | refine OL.q (Y.load T28 rfl (Ent.at 5 rfl (Up.cellIs _ _ _) (blk_cell rfl))) rfl ?_
          refine OL.q (Y.move rfl) rfl ?_
          refine OL.q (Y.sliceHi (k := f) Try.underlying28 C3 rfl rfl (by omega) (by omega)) rfl ?_
          refine OL.q (Y.nilCheck rfl) rfl ?_
          refine OL.q (Y.field L30_2 rfl) rfl ?_
          first | refine OL.store 0 rfl C28 rfl rfl rfl rfl rfl ⟨rfl, rfl, ?_⟩ | refine OL.store 1 rfl C28 rfl rfl rfl rfl rfl ⟨rfl, rfl, ?_⟩ | refine OL.store 2 rfl C28 rfl rfl rfl rfl rfl ⟨rfl, rfl, ?_⟩ | refine OL.store 3 rfl C28 rfl rfl rfl rfl rfl ⟨rfl, rfl, ?_⟩ | refine OL.store 4 rfl C28 rfl rfl rfl rfl rfl ⟨rfl, rfl, ?_⟩ | refine OL.store 5 rfl C28 rfl rfl rfl rfl rfl ⟨rfl, rfl, ?_⟩
          refine OL.nil ?_
          refine EX.seq ?_
          refine CW.seq ?_
          refine CW.region ?_
          refine OL.q (Y.assign rfl) rfl ?_
          refine OL.nil ?_
          refine EX.seq ?_
          refine CW.ret ?_
          refine EX.read (fun _ : Unit => True) (fun _ => [refAt r ⟨S.ents.take f, S.levels.take j⟩]) (fun h hs => ⟨(), trivial, ref_shut (S := ⟨S.ents.take f, S.levels.take j⟩) ⟨v.na, f, v.nc, v.ta, f, v.tc, v.aa, f, v.ac⟩ hok h ?_⟩) (fun _ _ => ?_)
          · have h2 := sl_set_mono (i := 1) rfl (hs.picked (is := [0, 1, 2, 3]) rfl) (row_take (k := f) (by omega))
            have h3 := sl_set_mono (i := 2) rfl h2 (row_take (k := f) (by omega))
            have h4 := sl_set_mono (i := 3) rfl h3 (row_take (k := f) (by omega))
            have e5 : ((S.levels.take j).length : Int) = (S.levels.length : Int) - m := by rw [List.length_take]; omega
            unfold refL
            rw [hlv, e5, List.map_take, List.map_take, List.map_take]
            exact h4
          · exact EX.fin1 [0] rfl rfl rfl (by rw [he]; exact ⟨rfl, rfl⟩)
      · have ng7_7 := g7_7
        repeat (first | replace ng7_7 := yes ng7_7 | replace ng7_7 := no ng7_7 | replace ng7_7 := nyes ng7_7 | replace ng7_7 := nno ng7_7)
        refine OL.tno g7_7 rfl rfl rfl ?_
        refine OL.tno g7_7 rfl rfl rfl ?_
        refine OL.tno g7_7 rfl rfl rfl ?_
        refine OL.tno g7_7 rfl rfl rfl ?_
        refine OL.tno g7_7 rfl rfl rfl ?_
        refine OL.tno g7_7 rfl rfl rfl ?_
        refine OL.tno g7_7 rfl rfl rfl ?_
        refine OL.tno g7_7 rfl rfl rfl ?_
        refine OL.tno g7_7 rfl rfl rfl ?_
        refine OL.tno g7_7 rfl rfl rfl ?_
        refine OL.tno g7_7 rfl rfl rfl ?_
        refine OL.tno g7_7 rfl rfl rfl ?_
        refine OL.qt (Y.pickF rfl g7_7 rfl) rfl ?_
        refine OL.nil ?_
        refine EX.tail ?_
        refine OL.nil ?_
        refine EX.seq ?_
        refine CW.cond rfl (fun h2 => ?_) (fun h2 => ?_)
        · repeat (first | replace h2 := yes h2 | replace h2 := no h2 | replace h2 := nyes h2 | replace h2 := nno h2)
          exfalso
          first | omega | contradiction | exact absurd rfl h2 | exact absurd h2 (by simp) | exact absurd h2 (by decide)
        repeat (first | replace h2 := yes h2 | replace h2 := no h2 | replace h2 := nyes h2 | replace h2 := nno h2)
        have hkf3 : k = f := by omega
        refine CW.exit ?_
        refine EX.exitT ?_
        refine EX.exitT ?_
        refine EX.exitB ?_
        refine EX.seq ?_
        refine CW.seq ?_
        refine CW.region ?_
        refine OL.q (Y.move rfl) rfl ?_
        refine OL.q (Y.move rfl) rfl ?_
        refine OL.q (Y.nilCheck rfl) rfl ?_
        refine OL.q (Y.field L30_0 rfl) rfl ?_
        first | refine OL.q (Y.load T23 rfl (Ent.at 0 rfl (Up.cellIs _ _ _) (blk_cell rfl))) rfl ?_ | refine OL.q (Y.load T23 rfl (Ent.at 1 rfl (Up.cellIs _ _ _) (blk_cell rfl))) rfl ?_ | refine OL.q (Y.load T23 rfl (Ent.at 2 rfl (Up.cellIs _ _ _) (blk_cell rfl))) rfl ?_ | refine OL.q (Y.load T23 rfl (Ent.at 3 rfl (Up.cellIs _ _ _) (blk_cell rfl))) rfl ?_ | refine OL.q (Y.load T23 rfl (Ent.at 4 rfl (Up.cellIs _ _ _) (blk_cell rfl))) rfl ?_ | refine OL.q (Y.load T23 rfl (Ent.at 5 rfl (Up.cellIs _ _ _) (blk_cell rfl))) rfl ?_
        refine OL.q (Y.move rfl) rfl ?_
        refine OL.q (Y.sliceHi (k := f) Try.underlying23 C9 rfl rfl (by omega) (by omega)) rfl ?_
        refine OL.q (Y.nilCheck rfl) rfl ?_
        refine OL.q (Y.field L30_0 rfl) rfl ?_
        first | refine OL.store 0 rfl C23 rfl rfl rfl rfl rfl ⟨rfl, rfl, ?_⟩ | refine OL.store 1 rfl C23 rfl rfl rfl rfl rfl ⟨rfl, rfl, ?_⟩ | refine OL.store 2 rfl C23 rfl rfl rfl rfl rfl ⟨rfl, rfl, ?_⟩ | refine OL.store 3 rfl C23 rfl rfl rfl rfl rfl ⟨rfl, rfl, ?_⟩ | refine OL.store 4 rfl C23 rfl rfl rfl rfl rfl ⟨rfl, rfl, ?_⟩ | refine OL.store 5 rfl C23 rfl rfl rfl rfl rfl ⟨rfl, rfl, ?_⟩
        refine OL.nil ?_
        refine EX.seq ?_
        refine CW.seq ?_
        refine CW.region ?_
        refine OL.q (Y.move rfl) rfl ?_
        refine OL.q (Y.move rfl) rfl ?_
        refine OL.q (Y.nilCheck rfl) rfl ?_
        refine OL.q (Y.field L30_1 rfl) rfl ?_
        first | refine OL.q (Y.load T28 rfl (Ent.at 0 rfl (Up.cellIs _ _ _) (blk_cell rfl))) rfl ?_ | refine OL.q (Y.load T28 rfl (Ent.at 1 rfl (Up.cellIs _ _ _) (blk_cell rfl))) rfl ?_ | refine OL.q (Y.load T28 rfl (Ent.at 2 rfl (Up.cellIs _ _ _) (blk_cell rfl))) rfl ?_ | refine OL.q (Y.load T28 rfl (Ent.at 3 rfl (Up.cellIs _ _ _) (blk_cell rfl))) rfl ?_ | refine OL.q (Y.load T28 rfl (Ent.at 4 rfl (Up.cellIs _ _ _) (blk_cell rfl))) rfl ?_ | refine OL.q (Y.load T28 rfl (Ent.at 5 rfl (Up.cellIs _ _ _) (blk_cell rfl))) rfl ?_
        refine OL.q (Y.move rfl) rfl ?_
        refine OL.q (Y.sliceHi (k := f) Try.underlying28 C3 rfl rfl (by omega) (by omega)) rfl ?_
        refine OL.q (Y.nilCheck rfl) rfl ?_
        refine OL.q (Y.field L30_1 rfl) rfl ?_
        first | refine OL.store 0 rfl C28 rfl rfl rfl rfl rfl ⟨rfl, rfl, ?_⟩ | refine OL.store 1 rfl C28 rfl rfl rfl rfl rfl ⟨rfl, rfl, ?_⟩ | refine OL.store 2 rfl C28 rfl rfl rfl rfl rfl ⟨rfl, rfl, ?_⟩ | refine OL.store 3 rfl C28 rfl rfl rfl rfl rfl ⟨rfl, rfl, ?_⟩ | refine OL.store 4 rfl C28 rfl rfl rfl rfl rfl ⟨rfl, rfl, ?_⟩ | refine OL.store 5 rfl C28 rfl rfl rfl rfl rfl ⟨rfl, rfl, ?_⟩
        refine OL.nil ?_
        refine EX.seq ?_
        refine CW.seq ?_
        refine CW.region ?_
        refine OL.q (Y.move rfl) rfl ?_
        refine OL.q (Y.move rfl) rfl ?_
        refine OL.q (Y.nilCheck rfl) rfl ?_
        refine OL.q (Y.field L30_2 rfl) rfl ?_
        first | refine OL.q (Y.load T28 rfl (Ent.at 0 rfl (Up.cellIs _ _ _) (blk_cell rfl))) rfl ?_ | refine OL.q (Y.load T28 rfl (Ent.at 1 rfl (Up.cellIs _ _ _) (blk_cell rfl))) rfl ?_ | refine OL.q (Y.load T28 rfl (Ent.at 2 rfl (Up.cellIs _ _ _) (blk_cell rfl))) rfl ?_ | refine OL.q (Y.load T28 rfl (Ent.at 3 rfl (Up.cellIs _ _ _) (blk_cell rfl))) rfl ?_ | refine OL.q (Y.load T28 rfl (Ent.at 4 rfl (Up.cellIs _ _ _) (blk_cell rfl))) rfl ?_ | refine OL.q (Y.load T28 rfl (Ent.at 5 rfl (Up.cellIs _ _ _) (blk_cell rfl))) rfl ?_
        refine OL.q (Y.move rfl) rfl ?_
        refine OL.q (Y.sliceHi (k := f) Try.underlying28 C3 rfl rfl (by omega) (by omega)) rfl ?_
        refine OL.q (Y.nilCheck rfl) rfl ?_
        refine OL.q (Y.field L30_2 rfl) rfl ?_
        first | refine OL.store 0 rfl C28 rfl rfl rfl rfl rfl ⟨rfl, rfl, ?_⟩ | refine OL.store 1 rfl C28 rfl rfl rfl rfl rfl ⟨rfl, rfl, ?_⟩ | refine OL.store 2 rfl C28 rfl rfl rfl rfl rfl ⟨rfl, rfl, ?_⟩ | refine OL.store 3 rfl C28 rfl rfl rfl rfl rfl ⟨rfl, rfl, ?_⟩ | refine OL.store 4 rfl C28 rfl rfl rfl rfl rfl ⟨rfl, rfl, ?_⟩ | refine OL.store 5 rfl C28 rfl rfl rfl rfl rfl ⟨rfl, rfl, ?_⟩
        refine OL.nil ?_
        refine EX.seq ?_
        refine CW.seq ?_
        refine CW.region ?_
        refine OL.q (Y.assign rfl) rfl ?_
        refine OL.nil ?_
        refine EX.seq ?_
        refine CW.ret ?_
        refine EX.read (fun _ : Unit => True) (fun _ => [refAt r ⟨S.ents.take f, S.levels.take j⟩]) (fun h hs => ⟨(), trivial, ref_shut (S := ⟨S.ents.take f, S.levels.take j⟩) ⟨v.na, f, v.nc, v.ta, f, v.tc, v.aa, f, v.ac⟩ hok h ?_⟩) (fun _ _ => ?_)
        · have h2 := sl_set_mono (i := 1) rfl (hs.picked (is := [0, 1, 2, 3]) rfl) (row_take (k := f) (by omega))
          have h3 := sl_set_mono (i := 2) rfl h2 (row_take (k := f) (by omega))
          have h4 := sl_set_mono (i := 3) rfl h3 (row_take (k := f) (by omega))
          have e5 : ((S.levels.take j).length : Int) = (S.levels.length : Int) - m := by rw [List.length_take]; omega
          unfold refL
          rw [hlv, e5, List.map_take, List.map_take, List.map_take]
          exact h4
        · exact EX.fin1 [0] rfl rfl rfl (by rw [he]; exact ⟨rfl, rfl⟩)
end Go.Proofs.Ythnejajlkijobaa
