/- Sorts and functions that are added to an arena. -/
import Derived.Test.YtmlnnepgigieaaaDoorDagD
namespace Go.Proofs.YtmlnnepgigieaaaDoor
open Go.Sx

theorem T94 : Ty1 Tryd.prog 94 (.map none) := ⟨Tryd.isAgg94, Tryd.sizeOf94, Tryd.zeroValue94⟩
theorem S57 : TyN Tryd.prog 57 2 [.string ⟨#[]⟩, .slice none 0 0] := ⟨Tryd.isAgg57, Tryd.sizeOf57, Tryd.zeroValue57, rfl⟩
theorem C53 : TyC Tryd.prog 53 1 [.slice none 0 0] := T53.c rfl
theorem C57 : TyC Tryd.prog 57 2 [.string ⟨#[]⟩, .slice none 0 0] := S57.c
theorem L97_2 : Fld Tryd.prog 97 2 2 := ⟨⟨_, Tryd.underlying97, _, rfl, rfl, 1, by decide, Tryd.sizeOf94⟩⟩
theorem B57 : StT Tryd.prog 57 [(0, 1), (1, 1)] [.string ⟨#[]⟩, .slice none 0 0] := StT.of (it := Tryd.t57) (by kernel_rfl) Tryd.underlying57 rfl rfl (by kernel_rfl)
theorem E57 : Elt Tryd.prog 57 2 40 [.string ⟨#[]⟩, .slice none 0 0] := ⟨⟨Tryd.t57, by kernel_rfl, rfl, rfl, _, rfl, rfl⟩, rfl, by decide⟩


theorem split_at {α : Type _} {c : α} : ∀ {p q A B : List α}, c ∉ p → c ∉ q → p ++ c :: A = q ++ c :: B → p = q ∧ A = B
  | [], [], _, _, _, _, h => ⟨rfl, by simpa using h⟩
  | [], y :: q, _, _, _, hq, h => by simp at h; exact absurd h.1 (fun e => hq (by simp [e]))
  | x :: p, [], _, _, hp', _, h => by simp at h; exact absurd h.1 (fun e => hp' (by simp [← e]))
  | x :: p, y :: q, _, _, hp', hq, h => by
    simp at h hp' hq
    obtain ⟨h1, h2⟩ := split_at (p := p) (q := q) hp'.2 hq.2 h.2
    exact ⟨by rw [h.1, h1], h2⟩
theorem dig4_no (x : Fin 10000) : (44 : UInt8) ∉ dig4 x ∧ (58 : UInt8) ∉ dig4 x ∧ dig4 x ≠ [] := of_decide_eq_true (all4 (p := fun x => decide ((44 : UInt8) ∉ dig4 x ∧ (58 : UInt8) ∉ dig4 x ∧ dig4 x ≠ [])) (by decide +kernel) x.val x.isLt)
def undig (l : List UInt8) : Nat := l.foldl (fun n d => 10 * n + (d.toNat - 48)) 0
theorem dig4_un (x : Fin 10000) : undig (dig4 x) = x.val := of_decide_eq_true (all4 (p := fun x => decide (undig (dig4 x) = x)) (by decide +kernel) x.val x.isLt)
theorem dig4_inj (x y : Fin 10000) (h : dig4 x = dig4 y) : x = y := by
  have h1 := dig4_un x
  rw [h, dig4_un y] at h1
  exact Fin.ext h1.symm
def low (l : List Int) : Prop := ∀ x ∈ l, 0 ≤ x ∧ x < 10000
theorem key_inj : ∀ {l m : List Int} {a b : List UInt8}, low l → low m → keyArgs l ++ 58 :: a = keyArgs m ++ 58 :: b → l = m ∧ a = b
  | [], [], _, _, _, _, h => ⟨rfl, by simpa [keyArgs] using h⟩
  | [], y :: m, a, b, _, hm, h => by
    obtain ⟨h1, h2⟩ := hm y (by simp)
    obtain ⟨k, rfl⟩ := Int.eq_ofNat_of_zero_le h1
    have hd := dig4_no ⟨k, by omega⟩
    cases he : dig4 k with
    | nil => exact absurd he hd.2.2
    | cons u r =>
      simp [keyArgs, he] at h
      have := hd.2.1
      simp [he] at this
      exact absurd h.1 this.1
  | x :: l, [], a, b, hl, _, h => by
    obtain ⟨h1, h2⟩ := hl x (by simp)
    obtain ⟨k, rfl⟩ := Int.eq_ofNat_of_zero_le h1
    have hd := dig4_no ⟨k, by omega⟩
    cases he : dig4 k with
    | nil => exact absurd he hd.2.2
    | cons u r =>
      simp [keyArgs, he] at h
      have := hd.2.1
      simp [he] at this
      exact absurd h.1.symm this.1
  | x :: l, y :: m, a, b, hl, hm, h => by
    obtain ⟨h1, h2⟩ := hl x (by simp)
    obtain ⟨k, rfl⟩ := Int.eq_ofNat_of_zero_le h1
    obtain ⟨h3, h4⟩ := hm y (by simp)
    obtain ⟨j, rfl⟩ := Int.eq_ofNat_of_zero_le h3
    simp only [keyArgs, List.flatMap_cons, Int.toNat_natCast, List.append_assoc, List.cons_append, List.nil_append] at h
    obtain ⟨e1, e2⟩ := split_at (dig4_no ⟨k, by omega⟩).1 (dig4_no ⟨j, by omega⟩).1 h
    have e3 := dig4_inj ⟨k, by omega⟩ ⟨j, by omega⟩ e1
    obtain ⟨e4, e5⟩ := key_inj (l := l) (m := m) (fun z hz => hl z (by simp [hz])) (fun z hz => hm z (by simp [hz])) e2
    simp at e3
    exact ⟨by rw [e3, e4], e5⟩
theorem keyOf_inj {x y : ByteArray} {l m : List Int} (hl : low l) (hm : low m) (h : keyOf x l = keyOf y m) : l = m ∧ x = y := by
  have h1 : (keyOf x l).data.toList = (keyOf y m).data.toList := by rw [h]
  simp only [keyOf, List.append_assoc, List.cons_append, List.nil_append] at h1
  obtain ⟨e1, e2⟩ := key_inj hl hm h1
  refine ⟨e1, ?_⟩
  cases x; cases y
  simp at e2
  rw [e2]
/-- Where a sort stands. -/
def findS (name : ByteArray) (l : List Int) : List SortC → Option Nat
  | [] => none
  | s :: r => if s.name = name ∧ s.args = l then some 0 else (findS name l r).map (· + 1)
theorem assoc_sorts {name : ByteArray} {l : List Int} (hl : low l) : ∀ (r : List SortC) (k : Nat), (∀ s ∈ r, low s.args) → assoc (keyOf name l) (sortPlaces k r) = (findS name l r).map fun j => Value.int .i64 ((k + j : Nat) : Int)
  | [], _, _ => rfl
  | s :: r, k, h => by
    have ih := assoc_sorts (name := name) hl r (k + 1) (fun z hz => h z (by simp [hz]))
    simp only [sortPlaces, assoc, findS]
    by_cases he : s.name = name ∧ s.args = l
    · rw [if_pos he, he.1, he.2]; simp
    · have hk : ¬ keyOf name l = keyOf s.name s.args := fun e => he (by
        obtain ⟨e1, e2⟩ := keyOf_inj hl (h s (by simp)) e
        exact ⟨e2.symm, e1.symm⟩)
      rw [if_neg he, if_neg hk, ih, Option.map_map]
      congr 1; funext j; simp; omega
theorem findS_lt {name : ByteArray} {l : List Int} : ∀ {r : List SortC} {k : Nat}, findS name l r = some k → k < r.length
  | s :: r, k, h => by
    simp only [findS] at h
    split at h
    · cases h; simp
    · cases hf : findS name l r with
      | none => rw [hf] at h; cases h
      | some j => rw [hf] at h; cases h; have := findS_lt hf; simp; omega
theorem places_snoc (s : SortC) : ∀ (r : List SortC) (k : Nat), assoc (keyOf s.name s.args) (sortPlaces k r) = none → putKey (keyOf s.name s.args) (.int .i64 ((k + r.length : Nat) : Int)) (sortPlaces k r) = sortPlaces k (r ++ [s])
  | [], _, _ => by simp [sortPlaces, putKey]
  | q :: r, k, h => by
    simp only [sortPlaces, assoc] at h
    split at h
    · cases h
    · rename_i hs
      simp only [sortPlaces, putKey, hs, if_false, List.cons_append, List.length_cons]
      rw [← places_snoc s r (k + 1) h]
      congr 3; omega
def sortPut (S : DagS) (s : SortC) : DagS := { S with sorts := S.sorts ++ [s] }
def sortV (v : DagV) (sa : Option Addr) (sc : Nat) : DagV := { v with sa := sa, sn := v.sn + 1, sc := sc }
theorem low_of {n : Nat} {l : List Int} (hn : n ≤ 10000) (h : l.any (bad n) = false) : low l := fun x hx => by
  have h1 := List.any_eq_false.1 h x hx
  have h2 : bad n x = false := by simpa using h1
  obtain ⟨h3, h4⟩ := bad_false.1 h2
  exact ⟨h3, by omega⟩


theorem sort_bad (t : Nat) (S : DagS) (v : DagV) (M : PH) (_hS : DagOk M S v) (_hlow : ∀ s ∈ S.sorts, low s.args) (name : ByteArray) (a : Option Addr) (n c : Nat) (l : List Int) (hl : l.length = n) (hn : n ≤ 1000000) (_hs : name.size ≤ 1000000) (_hsn : v.sn < 10000) (hbad : l.any (bad v.sn) = true) :
    FS Tryd.prog 16 [.pointer (some ⟨t, 0, none⟩), .string name, .slice a n c] (fun h => tabP h ∧ rd a n 1 (l.map intCells) h) [blk t [.int .i64 S.most, .slice v.sa v.sn v.sc, .map (some v.m), .slice v.fa v.fn v.fc, .slice v.ta v.tn v.tc, .slice v.oa v.on v.oc, .slice v.ca v.cn v.cc, .slice v.ba v.bn v.bc] 97, row v.sa v.sn v.sc 57 2 (S.sorts.map sortCells), mapc Value.string v.m (sortPlaces 0 S.sorts), row v.fa v.fn v.fc 38 3 (S.funs.map funCells), row v.ta v.tn v.tc 30 4 (S.terms.map termCells), row v.oa v.on v.oc 3 1 (S.of.map intCells), row v.ca v.cn v.cc 4 1 (S.cons.map boolCells), row v.ba v.bn v.bc 28 1 (S.bucks.map buckCells), star (S.bucks.map buckRow), imm M] (fun r H => r = .tuple #[.int .i64 0, .int .i64 2] ∧ H = dagR t S v M) := by
  refine FS.intro (N := 54) Tryd.func16 rfl rfl rfl (fun F w0 hF => ?_)
  refine CW.seq ?_
  refine CW.region ?_
  refine OL.q (Y.assign rfl) rfl ?_
  refine OL.q (Y.assign rfl) rfl ?_
  refine OL.nil ?_
  refine EX.seq ?_
  refine CW.seq ?_
  refine CW.seq ?_
  refine CW.region ?_
  refine OL.q (Y.move rfl) rfl ?_
  refine OL.q (Y.move rfl) rfl ?_
  refine OL.call [] (areSorts_any t S v M a n c l hl (by omega)) Tryd.call53 rfl rfl rfl rfl (Ent.and (Ent.star [0, 1, 2, 3, 4, 5, 6, 7, 8, 9] rfl rfl) (Ent.frame (Up.rd _ _ _ _) (fun h hs => (hF h hs).2))) rfl ?_
  rintro _ _ ⟨rfl, rfl⟩
  refine ⟨rfl, rfl, ?_⟩
  refine OL.q (Y.not rfl) rfl ?_
  refine OL.nil ?_
  refine EX.seq ?_
  refine CW.cond rfl (fun h0 => ?_) (fun h0 => ?_)
  rotate_left
  · repeat (first | replace h0 := yes h0 | replace h0 := no h0 | replace h0 := nyes h0 | replace h0 := nno h0)
    exfalso
    rw [hbad] at h0; cases h0
  repeat (first | replace h0 := yes h0 | replace h0 := no h0 | replace h0 := nyes h0 | replace h0 := nno h0)
  refine CW.seq ?_
  refine CW.region ?_
  refine OL.q (Y.assign rfl) rfl ?_
  refine OL.q (Y.assign rfl) rfl ?_
  refine OL.nil ?_
  refine EX.seq ?_
  refine CW.ret ?_
  refine EX.retT ?_
  exact EX.fin2 [0, 1, 2, 3, 4, 5, 6, 7, 8, 9] rfl rfl rfl rfl ⟨rfl, rfl⟩

theorem sort_old (t : Nat) (S : DagS) (v : DagV) (M : PH) (_hS : DagOk M S v) (hlow : ∀ s ∈ S.sorts, low s.args) (name : ByteArray) (a : Option Addr) (n c : Nat) (l : List Int) (hl : l.length = n) (hn : n ≤ 1000000) (hs : name.size ≤ 1000000) (hsn : v.sn < 10000) (hbad : l.any (bad v.sn) = false) (k : Nat) (hk : findS name l S.sorts = some k) :
    FS Tryd.prog 16 [.pointer (some ⟨t, 0, none⟩), .string name, .slice a n c] (fun h => tabP h ∧ rd a n 1 (l.map intCells) h) [blk t [.int .i64 S.most, .slice v.sa v.sn v.sc, .map (some v.m), .slice v.fa v.fn v.fc, .slice v.ta v.tn v.tc, .slice v.oa v.on v.oc, .slice v.ca v.cn v.cc, .slice v.ba v.bn v.bc] 97, row v.sa v.sn v.sc 57 2 (S.sorts.map sortCells), mapc Value.string v.m (sortPlaces 0 S.sorts), row v.fa v.fn v.fc 38 3 (S.funs.map funCells), row v.ta v.tn v.tc 30 4 (S.terms.map termCells), row v.oa v.on v.oc 3 1 (S.of.map intCells), row v.ca v.cn v.cc 4 1 (S.cons.map boolCells), row v.ba v.bn v.bc 28 1 (S.bucks.map buckCells), star (S.bucks.map buckRow), imm M] (fun r H => r = .tuple #[.int .i64 k, .int .i64 0] ∧ H = dagR t S v M) := by
  refine FS.intro (N := 54) Tryd.func16 rfl rfl rfl (fun F w0 hF => ?_)
  have ha : assoc (keyOf name l) (sortPlaces 0 S.sorts) = some (.int .i64 k) := by rw [assoc_sorts (low_of (by omega) hbad) _ _ hlow, hk]; simp
  refine CW.seq ?_
  refine CW.region ?_
  refine OL.q (Y.assign rfl) rfl ?_
  refine OL.q (Y.assign rfl) rfl ?_
  refine OL.nil ?_
  refine EX.seq ?_
  refine CW.seq ?_
  refine CW.seq ?_
  refine CW.region ?_
  refine OL.q (Y.move rfl) rfl ?_
  refine OL.q (Y.move rfl) rfl ?_
  refine OL.call [] (areSorts_any t S v M a n c l hl (by omega)) Tryd.call53 rfl rfl rfl rfl (Ent.and (Ent.star [0, 1, 2, 3, 4, 5, 6, 7, 8, 9] rfl rfl) (Ent.frame (Up.rd _ _ _ _) (fun h hs => (hF h hs).2))) rfl ?_
  rintro _ _ ⟨rfl, rfl⟩
  refine ⟨rfl, rfl, ?_⟩
  refine OL.q (Y.not rfl) rfl ?_
  refine OL.nil ?_
  refine EX.seq ?_
  refine CW.cond rfl (fun h0 => ?_) (fun h0 => ?_)
  · repeat (first | replace h0 := yes h0 | replace h0 := no h0 | replace h0 := nyes h0 | replace h0 := nno h0)
    exfalso
    rw [hbad] at h0; cases h0
  repeat (first | replace h0 := yes h0 | replace h0 := no h0 | replace h0 := nyes h0 | replace h0 := nno h0)
  refine CW.skip ?_
  refine EX.seq ?_
  refine CW.seq ?_
  refine CW.region ?_
  refine OL.q (Y.move rfl) rfl ?_
  refine OL.q (Y.move rfl) rfl ?_
  refine OL.call [] (sortKey_any name a n c l hl hn hs (low_of (by omega) hbad)) Tryd.call54 rfl rfl rfl rfl (Ent.frame (Up.and Up.tabP (Up.rd _ _ _ _)) hF) rfl ?_
  rintro _ _ ⟨rfl, rfl⟩
  refine ⟨rfl, rfl, ?_⟩
  refine OL.q (Y.assign rfl) rfl ?_
  refine OL.nil ?_
  refine EX.seq ?_
  refine CW.seq ?_
  refine CW.region ?_
  refine OL.q (Y.move rfl) rfl ?_
  refine OL.q (Y.nilCheck rfl) rfl ?_
  refine OL.q (Y.field L97_2 rfl) rfl ?_
  refine OL.q (Y.load T94 rfl (Ent.at 0 rfl (Up.cellIs _ _ _) (blk_cell rfl))) rfl ?_
  refine OL.q (Y.move rfl) rfl ?_
  refine OL.q (Y.lookup2S 2 rfl Tryd.underlying94 (KeyT.string Tryd.underlying9) Tryd.zeroValue3 rfl rfl ha) rfl ?_
  refine OL.q (Y.move rfl) rfl ?_
  refine OL.q (Y.extract rfl rfl) rfl ?_
  refine OL.q (Y.extract rfl rfl) rfl ?_
  refine OL.q (Y.assign rfl) rfl ?_
  refine OL.q (Y.assign rfl) rfl ?_
  refine OL.nil ?_
  refine EX.seq ?_
  refine CW.seq ?_
  refine CW.seq ?_
  refine CW.region ?_
  refine OL.q (Y.move rfl) rfl ?_
  refine OL.q (Y.not rfl) rfl ?_
  refine OL.nil ?_
  refine EX.seq ?_
  refine CW.cond rfl (fun h1 => ?_) (fun h1 => ?_)
  · repeat (first | replace h1 := yes h1 | replace h1 := no h1 | replace h1 := nyes h1 | replace h1 := nno h1)
    exfalso
    cases h1
  repeat (first | replace h1 := yes h1 | replace h1 := no h1 | replace h1 := nyes h1 | replace h1 := nno h1)
  refine CW.skip ?_
  refine EX.seq ?_
  refine CW.seq ?_
  refine CW.region ?_
  refine OL.q (Y.move rfl) rfl ?_
  refine OL.q (Y.assign rfl) rfl ?_
  refine OL.q (Y.assign rfl) rfl ?_
  refine OL.nil ?_
  refine EX.seq ?_
  refine CW.ret ?_
  exact EX.fin2 [0, 1, 2, 3, 4, 5, 6, 7, 8, 9] rfl rfl rfl rfl ⟨rfl, rfl⟩

theorem sort_new (t : Nat) (S : DagS) (v : DagV) (M : PH) (hS : DagOk M S v) (hlow : ∀ s ∈ S.sorts, low s.args) (name : ByteArray) (a : Option Addr) (n c : Nat) (l : List Int) (hl : l.length = n) (hn : n ≤ 1000000) (hs : name.size ≤ 1000000) (hsn : v.sn < 10000) (hbad : l.any (bad v.sn) = false) (hk : findS name l S.sorts = none) :
    FS Tryd.prog 16 [.pointer (some ⟨t, 0, none⟩), .string name, .slice a n c] (fun h => tabP h ∧ rd a n 1 (l.map intCells) h) [blk t [.int .i64 S.most, .slice v.sa v.sn v.sc, .map (some v.m), .slice v.fa v.fn v.fc, .slice v.ta v.tn v.tc, .slice v.oa v.on v.oc, .slice v.ca v.cn v.cc, .slice v.ba v.bn v.bc] 97, row v.sa v.sn v.sc 57 2 (S.sorts.map sortCells), mapc Value.string v.m (sortPlaces 0 S.sorts), row v.fa v.fn v.fc 38 3 (S.funs.map funCells), row v.ta v.tn v.tc 30 4 (S.terms.map termCells), row v.oa v.on v.oc 3 1 (S.of.map intCells), row v.ca v.cn v.cc 4 1 (S.cons.map boolCells), row v.ba v.bn v.bc 28 1 (S.bucks.map buckCells), star (S.bucks.map buckRow), imm M] (fun r H => ∃ a2 c2 sa sc M2, le M M2 ∧ rowIn M2 a2 n c2 l ∧ r = .tuple #[.int .i64 v.sn, .int .i64 0] ∧ H = dagR t (sortPut S ⟨name, a2, n, c2, l⟩) (sortV v sa sc) M2) := by
  refine FS.intro (N := 54) Tryd.func16 rfl rfl rfl (fun F w0 hF => ?_)
  have ha : assoc (keyOf name l) (sortPlaces 0 S.sorts) = none := by rw [assoc_sorts (low_of (by omega) hbad) _ _ hlow, hk]; rfl
  refine CW.seq ?_
  refine CW.region ?_
  refine OL.q (Y.assign rfl) rfl ?_
  refine OL.q (Y.assign rfl) rfl ?_
  refine OL.nil ?_
  refine EX.seq ?_
  refine CW.seq ?_
  refine CW.seq ?_
  refine CW.region ?_
  refine OL.q (Y.move rfl) rfl ?_
  refine OL.q (Y.move rfl) rfl ?_
  refine OL.call [] (areSorts_any t S v M a n c l hl (by omega)) Tryd.call53 rfl rfl rfl rfl (Ent.and (Ent.star [0, 1, 2, 3, 4, 5, 6, 7, 8, 9] rfl rfl) (Ent.frame (Up.rd _ _ _ _) (fun h hs => (hF h hs).2))) rfl ?_
  rintro _ _ ⟨rfl, rfl⟩
  refine ⟨rfl, rfl, ?_⟩
  refine OL.q (Y.not rfl) rfl ?_
  refine OL.nil ?_
  refine EX.seq ?_
  refine CW.cond rfl (fun h0 => ?_) (fun h0 => ?_)
  · repeat (first | replace h0 := yes h0 | replace h0 := no h0 | replace h0 := nyes h0 | replace h0 := nno h0)
    exfalso
    rw [hbad] at h0; cases h0
  repeat (first | replace h0 := yes h0 | replace h0 := no h0 | replace h0 := nyes h0 | replace h0 := nno h0)
  refine CW.skip ?_
  refine EX.seq ?_
  refine CW.seq ?_
  refine CW.region ?_
  refine OL.q (Y.move rfl) rfl ?_
  refine OL.q (Y.move rfl) rfl ?_
  refine OL.call [] (sortKey_any name a n c l hl hn hs (low_of (by omega) hbad)) Tryd.call54 rfl rfl rfl rfl (Ent.frame (Up.and Up.tabP (Up.rd _ _ _ _)) hF) rfl ?_
  rintro _ _ ⟨rfl, rfl⟩
  refine ⟨rfl, rfl, ?_⟩
  refine OL.q (Y.assign rfl) rfl ?_
  refine OL.nil ?_
  refine EX.seq ?_
  refine CW.seq ?_
  refine CW.region ?_
  refine OL.q (Y.move rfl) rfl ?_
  refine OL.q (Y.nilCheck rfl) rfl ?_
  refine OL.q (Y.field L97_2 rfl) rfl ?_
  refine OL.q (Y.load T94 rfl (Ent.at 0 rfl (Up.cellIs _ _ _) (blk_cell rfl))) rfl ?_
  refine OL.q (Y.move rfl) rfl ?_
  refine OL.q (Y.lookup2N 2 rfl Tryd.underlying94 (KeyT.string Tryd.underlying9) Tryd.zeroValue3 rfl rfl ha) rfl ?_
  refine OL.q (Y.move rfl) rfl ?_
  refine OL.q (Y.extract rfl rfl) rfl ?_
  refine OL.q (Y.extract rfl rfl) rfl ?_
  refine OL.q (Y.assign rfl) rfl ?_
  refine OL.q (Y.assign rfl) rfl ?_
  refine OL.nil ?_
  refine EX.seq ?_
  refine CW.seq ?_
  refine CW.seq ?_
  refine CW.region ?_
  refine OL.q (Y.move rfl) rfl ?_
  refine OL.q (Y.not rfl) rfl ?_
  refine OL.nil ?_
  refine EX.seq ?_
  refine CW.cond rfl (fun h1 => ?_) (fun h1 => ?_)
  rotate_left
  · repeat (first | replace h1 := yes h1 | replace h1 := no h1 | replace h1 := nyes h1 | replace h1 := nno h1)
    exfalso
    cases h1
  repeat (first | replace h1 := yes h1 | replace h1 := no h1 | replace h1 := nyes h1 | replace h1 := nno h1)
  refine CW.seq ?_
  refine CW.region ?_
  refine OL.q (Y.move rfl) rfl ?_
  refine OL.q (Y.nilCheck rfl) rfl ?_
  refine OL.q (Y.field L97_1 rfl) rfl ?_
  refine OL.q (Y.load T53 rfl (Ent.at 0 rfl (Up.cellIs _ _ _) (blk_cell rfl))) rfl ?_
  refine OL.q (Y.lenSl Tryd.underlying53 rfl) rfl ?_
  refine OL.q (Y.assign rfl) rfl ?_
  refine OL.nil ?_
  refine EX.seq ?_
  refine CW.seq ?_
  refine CW.region ?_
  refine OL.q (Y.move rfl) rfl ?_
  refine OL.q (Y.nilCheck rfl) rfl ?_
  refine OL.q (Y.field L97_2 rfl) rfl ?_
  refine OL.q (Y.load T94 rfl (Ent.at 0 rfl (Up.cellIs _ _ _) (blk_cell rfl))) rfl ?_
  refine OL.q (Y.move rfl) rfl ?_
  refine OL.q (Y.move rfl) rfl ?_
  refine OL.mapUpdate 2 rfl Tryd.underlying94 (KeyT.string Tryd.underlying9) rfl rfl rfl ⟨rfl, rfl, ?_⟩
  refine OL.nil ?_
  refine EX.seq ?_
  refine CW.drawn [(true, 0), (true, 1), (true, 2), (true, 3), (true, 4), (true, 5), (true, 6), (false, 7), (true, 8), (false, 9), (false, 10)] [11, 12, 13] [0] mixed (by kernel_rfl) (by repeat (first | exact PanicOk.body | refine PanicOk.then ?_ | refine PanicOk.block ?_)) (by kernel_rfl) rfl rfl rfl rfl ?_
  refine OL.qt (Y.move rfl) rfl ?_
  refine OL.qt (Y.move rfl) rfl ?_
  refine OL.qt (Y.nilCheck rfl) rfl ?_
  refine OL.qt (Y.field L97_1 rfl) rfl ?_
  refine OL.qt (Y.load T53 rfl (Ent.at 0 rfl (Up.cellIs _ _ _) (blk_cell rfl))) rfl ?_
  refine OL.qt (Y.move rfl) rfl ?_
  refine OL.qt (Y.move rfl) rfl ?_
  refine OL.call [9] (copied_imm M a n c l hl (by omega)) Tryd.call55 rfl rfl rfl rfl (Ent.frame (Up.rd _ _ _ _) (fun h hs => (hF h hs).2)) rfl ?_
  rintro _ _ ⟨a2, c2, M2, hle, hr2, rfl, rfl⟩
  refine ⟨rfl, rfl, ?_⟩
  refine OL.qt (Y.build B57 rfl rfl) rfl ?_
  refine OL.buildSlice ([sortCells ⟨name, a2, n, c2, l⟩]) Tryd.underlying53 C57 (by decide) rfl (by decide) rfl rfl rfl (fun b49 => ⟨rfl, rfl, ?_⟩)
  refine OL.append [sortCells ⟨name, a2, n, c2, l⟩] 1 rfl Tryd.underlying53 E57 rfl rfl (Ent.at 10 rfl (Up.rd _ _ _ _) row_rd) rfl (by omega) (by omega) rfl (fun a50 c50 => ⟨rfl, rfl, ?_⟩)
  refine OL.nil ?_
  refine EX.tail ?_
  refine OL.q (Y.nilCheck rfl) rfl ?_
  refine OL.q (Y.field L97_1 rfl) rfl ?_
  refine OL.store 0 rfl C53 rfl rfl rfl rfl rfl ⟨rfl, rfl, ?_⟩
  refine OL.nil ?_
  refine EX.seq ?_
  refine CW.seq ?_
  refine CW.region ?_
  refine OL.q (Y.move rfl) rfl ?_
  refine OL.q (Y.assign rfl) rfl ?_
  refine OL.q (Y.assign rfl) rfl ?_
  refine OL.nil ?_
  refine EX.seq ?_
  refine CW.ret ?_
  refine EX.fin2 [0, 1, 2, 3, 4, 5, 6, 7, 8, 9] rfl rfl rfl rfl ⟨a2, c2, a50, c50, M2, hle, hr2, rfl, ?_⟩
  have e1 : sortPlaces 0 (S.sorts ++ [⟨name, a2, n, c2, l⟩]) = putKey (keyOf name l) (.int .i64 v.sn) (sortPlaces 0 S.sorts) := by
    have := places_snoc ⟨name, a2, n, c2, l⟩ S.sorts 0 ha
    rw [← this, hS.sn]; simp
  unfold dagR dagL sortPut sortV
  rw [e1, List.map_append]
  rfl
end Go.Proofs.YtmlnnepgigieaaaDoor
