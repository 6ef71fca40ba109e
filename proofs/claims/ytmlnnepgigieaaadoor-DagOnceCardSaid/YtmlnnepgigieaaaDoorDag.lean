/- The functions of dag that only read: each yields what its Lean function says. -/
import Derived.Test.YtmlnnepgigieaaaDoorRows
import Derived.Test.YtmlnnepgigieaaaDoorMem
import Derived.KernelRfl
namespace Go.Proofs.YtmlnnepgigieaaaDoor
open Go.Sx
theorem mixed : Tryd.prog.follows .mixedOrders = true := by kernel_rfl

theorem T3 : Ty1 Tryd.prog 3 (.int .i64 0) := ⟨Tryd.isAgg3, Tryd.sizeOf3, Tryd.zeroValue3⟩
theorem T9 : Ty1 Tryd.prog 9 (.string ⟨#[]⟩) := ⟨Tryd.isAgg9, Tryd.sizeOf9, Tryd.zeroValue9⟩
theorem T28 : Ty1 Tryd.prog 28 (.slice none 0 0) := ⟨Tryd.isAgg28, Tryd.sizeOf28, Tryd.zeroValue28⟩
theorem T53 : Ty1 Tryd.prog 53 (.slice none 0 0) := ⟨Tryd.isAgg53, Tryd.sizeOf53, Tryd.zeroValue53⟩
theorem T60 : Ty1 Tryd.prog 60 (.slice none 0 0) := ⟨Tryd.isAgg60, Tryd.sizeOf60, Tryd.zeroValue60⟩
theorem C3 : TyC Tryd.prog 3 1 [.int .i64 0] := T3.c rfl
theorem L30_0 : Fld Tryd.prog 30 0 0 := ⟨⟨_, Tryd.underlying30, _, rfl, rfl, 1, by decide, Tryd.sizeOf3⟩⟩
theorem L30_1 : Fld Tryd.prog 30 1 1 := ⟨⟨_, Tryd.underlying30, _, rfl, rfl, 1, by decide, Tryd.sizeOf3⟩⟩
theorem L30_2 : Fld Tryd.prog 30 2 2 := ⟨⟨_, Tryd.underlying30, _, rfl, rfl, 1, by decide, Tryd.sizeOf28⟩⟩
theorem L30_3 : Fld Tryd.prog 30 3 3 := ⟨⟨_, Tryd.underlying30, _, rfl, rfl, 1, by decide, Tryd.sizeOf9⟩⟩
theorem L97_1 : Fld Tryd.prog 97 1 1 := ⟨⟨_, Tryd.underlying97, _, rfl, rfl, 1, by decide, Tryd.sizeOf53⟩⟩
theorem L97_4 : Fld Tryd.prog 97 4 4 := ⟨⟨_, Tryd.underlying97, _, rfl, rfl, 1, by decide, Tryd.sizeOf60⟩⟩


def intCells (n : Int) : List Value := [.int .i64 n]
def boolCells (b : Bool) : List Value := [.bool b]
/-- A sort, a function, a term, each as it lies in memory. -/
structure SortC where
  name : ByteArray
  a : Option Addr
  n : Nat
  c : Nat
  args : List Int
structure FunC where
  name : ByteArray
  a : Option Addr
  n : Nat
  c : Nat
  args : List Int
  result : Int
structure TermC where
  op : Int
  fn : Int
  a : Option Addr
  n : Nat
  c : Nat
  kids : List Int
  num : ByteArray
def sortCells (s : SortC) : List Value := [.string s.name, .slice s.a s.n s.c]
def funCells (f : FunC) : List Value := [.string f.name, .slice f.a f.n f.c, .int .i64 f.result]
def termCells (t : TermC) : List Value := [.int .i64 t.op, .int .i64 t.fn, .slice t.a t.n t.c, .string t.num]
def sortVal (s : SortC) : Value := .agg (sortCells s).toArray
def funVal (f : FunC) : Value := .agg (funCells f).toArray
def termVal (t : TermC) : Value := .agg (termCells t).toArray
/-- A row of numbers that stands in M. -/
def rowIn (M : PH) (a : Option Addr) (n c : Nat) (l : List Int) : Prop := rd a n 1 (l.map intCells) M ∧ n ≤ c ∧ l.length = n
def SortC.Ok (M : PH) (s : SortC) : Prop := rowIn M s.a s.n s.c s.args
def FunC.Ok (M : PH) (f : FunC) : Prop := rowIn M f.a f.n f.c f.args
def TermC.Ok (M : PH) (t : TermC) : Prop := rowIn M t.a t.n t.c t.kids
theorem rowIn.up {M M' : PH} (hm : le M M') {a : Option Addr} {n c : Nat} {l : List Int} (h : rowIn M a n c l) : rowIn M' a n c l := ⟨Up.rd _ _ _ _ _ _ hm h.1, h.2⟩
/-- A bucket. -/
structure BuckC where
  a : Option Addr
  n : Nat
  c : Nat
  l : List Int
def buckCells (b : BuckC) : List Value := [.slice b.a b.n b.c]
def buckRow (b : BuckC) : HP := row b.a b.n b.c 3 1 (b.l.map intCells)
/-- What an arena holds. -/
structure DagS where
  most : Nat
  sorts : List SortC
  funs : List FunC
  terms : List TermC
  of : List Int
  cons : List Bool
  bucks : List BuckC
/-- Where it lies. -/
structure DagV where
  sa : Option Addr
  sn : Nat
  sc : Nat
  m : Nat
  fa : Option Addr
  fn : Nat
  fc : Nat
  ta : Option Addr
  tn : Nat
  tc : Nat
  oa : Option Addr
  on : Nat
  oc : Nat
  ca : Option Addr
  cn : Nat
  cc : Nat
  ba : Option Addr
  bn : Nat
  bc : Nat
/-- A number of at most four digits, as a key has it. -/
def dig4 (x : Nat) : List UInt8 := if x < 10 then [(48 + x).toUInt8] else if x < 100 then [(48 + x / 10).toUInt8, (48 + x % 10).toUInt8] else if x < 1000 then [(48 + x / 100).toUInt8, (48 + x / 10 % 10).toUInt8, (48 + x % 10).toUInt8] else [(48 + x / 1000).toUInt8, (48 + x / 100 % 10).toUInt8, (48 + x / 10 % 10).toUInt8, (48 + x % 10).toUInt8]
def keyArgs (args : List Int) : List UInt8 := args.flatMap fun x => dig4 x.toNat ++ [44]
def keyOf (name : ByteArray) (args : List Int) : ByteArray := ⟨(keyArgs args ++ [58] ++ name.data.toList).toArray⟩
def sortPlaces : Nat → List SortC → List (ByteArray × Value)
  | _, [] => []
  | k, s :: l => (keyOf s.name s.args, .int .i64 k) :: sortPlaces (k + 1) l
def dagL (t : Nat) (S : DagS) (v : DagV) : List HP :=
  [blk t [.int .i64 S.most, .slice v.sa v.sn v.sc, .map (some v.m), .slice v.fa v.fn v.fc, .slice v.ta v.tn v.tc, .slice v.oa v.on v.oc, .slice v.ca v.cn v.cc, .slice v.ba v.bn v.bc] 97,
   row v.sa v.sn v.sc 57 2 (S.sorts.map sortCells), mapc Value.string v.m (sortPlaces 0 S.sorts), row v.fa v.fn v.fc 38 3 (S.funs.map funCells), row v.ta v.tn v.tc 30 4 (S.terms.map termCells),
   row v.oa v.on v.oc 3 1 (S.of.map intCells), row v.ca v.cn v.cc 4 1 (S.cons.map boolCells), row v.ba v.bn v.bc 28 1 (S.bucks.map buckCells), star (S.bucks.map buckRow)]
def dagR (t : Nat) (S : DagS) (v : DagV) (M : PH) : List HP := dagL t S v ++ [imm M]
/-- What holds of an arena at all times. -/
structure DagOk (M : PH) (S : DagS) (v : DagV) : Prop where
  sn : S.sorts.length = v.sn
  fn : S.funs.length = v.fn
  tn : S.terms.length = v.tn
  on : S.of.length = v.tn
  cn : S.cons.length = v.tn
  onv : v.on = v.tn
  cnv : v.cn = v.tn
  bn : S.bucks.length = v.bn
  sorts : ∀ s ∈ S.sorts, s.Ok M
  funs : ∀ f ∈ S.funs, f.Ok M
  terms : ∀ t ∈ S.terms, t.Ok M
  small : v.sn ≤ 10000 ∧ v.fn ≤ 1000000 ∧ v.tn ≤ 1048576 ∧ v.bn ≤ 10000000
theorem mem_of {α : Type _} {l : List α} {k : Nat} {x : α} (h : l[k]? = some x) : x ∈ l := by
  obtain ⟨hl, rfl⟩ := List.getElem?_eq_some_iff.1 h
  exact List.getElem_mem hl
theorem take_snoc {α : Type _} {l : List α} {k : Nat} {x : α} (h : l[k]? = some x) : l.take (k + 1) = l.take k ++ [x] := by
  rw [List.take_add_one, h]; rfl



/-- Is a place no place of n? -/
def bad (n : Nat) (k : Int) : Bool := decide (k < 0) || decide ((n : Int) ≤ k)
theorem bad_false {n : Nat} {k : Int} : bad n k = false ↔ 0 ≤ k ∧ k < n := by simp [bad]
theorem any_take {α : Type _} {l : List α} {p : α → Bool} {k : Nat} {x : α} (h : l[k]? = some x) : (l.take (k + 1)).any p = ((l.take k).any p || p x) := by rw [take_snoc h]; simp
theorem any_mem {α : Type _} {l : List α} {p : α → Bool} {x : α} (h : x ∈ l) (hp : p x = true) : l.any p = true := List.any_eq_true.2 ⟨x, h, hp⟩


theorem has_any (t : Nat) (S : DagS) (v : DagV) (M : PH) (k : Int) :
    FS Tryd.prog 68 [.pointer (some ⟨t, 0, none⟩), .int .i64 k] (fun h => sl (dagR t S v M) h) [] (fun r H => r = .bool (!bad v.tn k) ∧ H = []) := by
  refine FS.intro (N := 16) Tryd.func68 rfl rfl rfl (fun F w0 hF => ?_)
  refine CW.seq ?_
  refine CW.region ?_
  refine OL.q (Y.assign rfl) rfl ?_
  refine OL.nil ?_
  refine EX.seq ?_
  refine CW.seq ?_
  refine CW.region ?_
  refine OL.q (Y.move rfl) rfl ?_
  refine OL.q (Y.geq rfl rfl) rfl ?_
  refine OL.q (Y.move rfl) rfl ?_
  refine OL.guard (s := 7) rfl (fun g1_2 => ?_) (fun g1_2 => ?_)
  · have ng1_2 := g1_2
    repeat (first | replace ng1_2 := yes ng1_2 | replace ng1_2 := no ng1_2 | replace ng1_2 := nyes ng1_2 | replace ng1_2 := nno ng1_2)
    refine OL.on g1_2 rfl rfl ?_
    refine OL.q (Y.move rfl) rfl ?_
    refine OL.on g1_2 rfl rfl ?_
    refine OL.q (Y.move rfl) rfl ?_
    refine OL.on g1_2 rfl rfl ?_
    refine OL.q (Y.nilCheck rfl) rfl ?_
    refine OL.on g1_2 rfl rfl ?_
    refine OL.q (Y.field L97_4 rfl) rfl ?_
    refine OL.on g1_2 rfl rfl ?_
    refine OL.q (Y.load T60 rfl (Ent.via hF (Up.cellIs _ _ _) (Ent.at 0 rfl (Up.cellIs _ _ _) (blk_cell rfl)))) rfl ?_
    refine OL.on g1_2 rfl rfl ?_
    refine OL.q (Y.lenSl Tryd.underlying60 rfl) rfl ?_
    refine OL.on g1_2 rfl rfl ?_
    refine OL.q (Y.lss rfl rfl) rfl ?_
    refine OL.q (Y.pickT rfl g1_2 rfl) rfl ?_
    refine OL.q (Y.assign rfl) rfl ?_
    refine OL.nil ?_
    refine EX.seq ?_
    refine CW.ret ?_
    exact EX.fin1 [] rfl rfl rfl ⟨congrArg Value.bool (by unfold bad; first | (simp [*]; done) | (rw [Bool.eq_iff_iff]; simp; omega) | (simp; omega)), rfl⟩
  · have ng1_2 := g1_2
    repeat (first | replace ng1_2 := yes ng1_2 | replace ng1_2 := no ng1_2 | replace ng1_2 := nyes ng1_2 | replace ng1_2 := nno ng1_2)
    refine OL.no g1_2 rfl rfl rfl ?_
    refine OL.no g1_2 rfl rfl rfl ?_
    refine OL.no g1_2 rfl rfl rfl ?_
    refine OL.no g1_2 rfl rfl rfl ?_
    refine OL.no g1_2 rfl rfl rfl ?_
    refine OL.no g1_2 rfl rfl rfl ?_
    refine OL.no g1_2 rfl rfl rfl ?_
    refine OL.q (Y.pickF rfl g1_2 rfl) rfl ?_
    refine OL.q (Y.assign rfl) rfl ?_
    refine OL.nil ?_
    refine EX.seq ?_
    refine CW.ret ?_
    exact EX.fin1 [] rfl rfl rfl ⟨congrArg Value.bool (by unfold bad; first | (simp [*]; done) | (rw [Bool.eq_iff_iff]; simp; omega) | (simp; omega)), rfl⟩

theorem len_any (t : Nat) (S : DagS) (v : DagV) (M : PH) :
    FS Tryd.prog 18 [.pointer (some ⟨t, 0, none⟩)] (fun h => sl (dagR t S v M) h) [] (fun r H => r = .int .i64 v.tn ∧ H = []) := by
  refine FS.intro (N := 8) Tryd.func18 rfl rfl rfl (fun F w0 hF => ?_)
  refine CW.seq ?_
  refine CW.region ?_
  refine OL.q (Y.assign rfl) rfl ?_
  refine OL.nil ?_
  refine EX.seq ?_
  refine CW.seq ?_
  refine CW.region ?_
  refine OL.q (Y.move rfl) rfl ?_
  refine OL.q (Y.nilCheck rfl) rfl ?_
  refine OL.q (Y.field L97_4 rfl) rfl ?_
  refine OL.q (Y.load T60 rfl (Ent.via hF (Up.cellIs _ _ _) (Ent.at 0 rfl (Up.cellIs _ _ _) (blk_cell rfl)))) rfl ?_
  refine OL.q (Y.lenSl Tryd.underlying60 rfl) rfl ?_
  refine OL.q (Y.assign rfl) rfl ?_
  refine OL.nil ?_
  refine EX.seq ?_
  refine CW.ret ?_
  exact EX.fin1 [] rfl rfl rfl ⟨rfl, rfl⟩

theorem areSorts_any (t : Nat) (S : DagS) (v : DagV) (M : PH) (a : Option Addr) (n c : Nat) (l : List Int) (hl : l.length = n) (hsm : n ≤ 1000000) :
    FS Tryd.prog 53 [.pointer (some ⟨t, 0, none⟩), .slice a n c] (fun h => sl (dagR t S v M) h ∧ rd a n 1 (l.map intCells) h) [] (fun r H => r = .bool (!l.any (bad v.sn)) ∧ H = []) := by
  refine FS.intro (N := 25) Tryd.func53 rfl rfl rfl (fun F w0 hF => ?_)
  have hF1 : Ent F (fun h => sl (dagR t S v M) h) := fun h hs => (hF h hs).1
  have hF2 : Ent F (rd a n 1 (l.map intCells)) := fun h hs => (hF h hs).2
  refine CW.seq ?_
  refine CW.region ?_
  refine OL.q (Y.assign rfl) rfl ?_
  refine OL.nil ?_
  refine EX.seq ?_
  refine CW.seq ?_
  refine CW.seq ?_
  refine CW.region ?_
  refine OL.q (Y.move rfl) rfl ?_
  refine OL.q (Y.lenSl Tryd.underlying28 rfl) rfl ?_
  refine OL.q (Y.move rfl) rfl ?_
  refine OL.nil ?_
  refine EX.seq ?_
  refine CW.block ?_
  refine CW.loop (α := Nat) ⟨fun k => k ≤ n ∧ (l.take k).any (bad v.sn) = false, fun k => [(0, .pointer (some ⟨t, 0, none⟩)), (7, .slice a n c), (8, .int .i64 n), (9, .int .i64 k)], fun _ => []⟩
    (fun k => n - k) 0 [] ⟨Nat.zero_le _, rfl⟩ ⟨rfl, rfl, rfl, rfl, trivial⟩ rfl rfl ?_
  rintro k ⟨hk, hb⟩
  dsimp only at hk hb ⊢
  refine CW.seq ?_
  refine CW.region ?_
  refine OL.q (Y.lss rfl rfl) rfl ?_
  refine OL.nil ?_
  refine EX.seq ?_
  refine CW.seq ?_
  refine CW.cond rfl (fun h0 => ?_) (fun h0 => ?_)
  · repeat (first | replace h0 := yes h0 | replace h0 := no h0 | replace h0 := nyes h0 | replace h0 := nno h0)
    obtain ⟨x, hp⟩ : ∃ p, l[k]? = some p := ⟨_, List.getElem?_eq_getElem (by omega)⟩
    refine CW.skip ?_
    refine EX.seq ?_
    refine CW.seq ?_
    refine CW.block ?_
    refine CW.seq ?_
    refine CW.region ?_
    refine OL.q (Y.index (k := k) Tryd.underlying28 C3 rfl rfl (Ent.frame (Up.rd _ _ _ _) hF2) (by omega) (by omega)) rfl ?_
    refine OL.q (Y.load T3 rfl (cellsIs_at0 (rd_at (Ent.frame (Up.rd _ _ _ _) hF2) (mget intCells hp)) rfl)) rfl ?_
    refine OL.q (Y.assign rfl) rfl ?_
    refine OL.nil ?_
    refine EX.seq ?_
    refine CW.seq ?_
    refine CW.region ?_
    refine OL.q (Y.move rfl) rfl ?_
    refine OL.q (Y.lss rfl rfl) rfl ?_
    refine OL.q (Y.move rfl) rfl ?_
    refine OL.guard (s := 15) rfl (fun g4_2 => ?_) (fun g4_2 => ?_)
    · have ng4_2 := g4_2
      repeat (first | replace ng4_2 := yes ng4_2 | replace ng4_2 := no ng4_2 | replace ng4_2 := nyes ng4_2 | replace ng4_2 := nno ng4_2)
      refine OL.no g4_2 rfl rfl rfl ?_
      refine OL.no g4_2 rfl rfl rfl ?_
      refine OL.no g4_2 rfl rfl rfl ?_
      refine OL.no g4_2 rfl rfl rfl ?_
      refine OL.no g4_2 rfl rfl rfl ?_
      refine OL.no g4_2 rfl rfl rfl ?_
      refine OL.no g4_2 rfl rfl rfl ?_
      refine OL.q (Y.pickT rfl g4_2 rfl) rfl ?_
      refine OL.nil ?_
      refine EX.seq ?_
      refine CW.cond rfl (fun h1 => ?_) (fun h1 => ?_)
      rotate_left
      · repeat (first | replace h1 := yes h1 | replace h1 := no h1 | replace h1 := nyes h1 | replace h1 := nno h1)
        exfalso
        first | omega | contradiction | exact absurd rfl h1 | exact absurd h1 (by simp) | exact absurd h1 (by decide)
      repeat (first | replace h1 := yes h1 | replace h1 := no h1 | replace h1 := nyes h1 | replace h1 := nno h1)
      refine CW.seq ?_
      refine CW.region ?_
      refine OL.q (Y.assign rfl) rfl ?_
      refine OL.nil ?_
      refine EX.seq ?_
      refine CW.ret ?_
      refine EX.retB ?_
      refine EX.retT ?_
      refine EX.retT ?_
      refine EX.retB ?_
      refine EX.retT ?_
      have hb2 : l.any (bad v.sn) = true := any_mem (mem_of hp) (by unfold bad; first | (simp [ng4_2]; done) | (simp; omega))
      exact EX.fin1 [] rfl rfl rfl ⟨by rw [hb2]; rfl, rfl⟩
    · have ng4_2 := g4_2
      repeat (first | replace ng4_2 := yes ng4_2 | replace ng4_2 := no ng4_2 | replace ng4_2 := nyes ng4_2 | replace ng4_2 := nno ng4_2)
      refine OL.on g4_2 rfl rfl ?_
      refine OL.q (Y.move rfl) rfl ?_
      refine OL.on g4_2 rfl rfl ?_
      refine OL.q (Y.move rfl) rfl ?_
      refine OL.on g4_2 rfl rfl ?_
      refine OL.q (Y.nilCheck rfl) rfl ?_
      refine OL.on g4_2 rfl rfl ?_
      refine OL.q (Y.field L97_1 rfl) rfl ?_
      refine OL.on g4_2 rfl rfl ?_
      refine OL.q (Y.load T53 rfl (Ent.via hF1 (Up.cellIs _ _ _) (Ent.at 0 rfl (Up.cellIs _ _ _) (blk_cell rfl)))) rfl ?_
      refine OL.on g4_2 rfl rfl ?_
      refine OL.q (Y.lenSl Tryd.underlying53 rfl) rfl ?_
      refine OL.on g4_2 rfl rfl ?_
      refine OL.q (Y.geq rfl rfl) rfl ?_
      refine OL.q (Y.pickF rfl g4_2 rfl) rfl ?_
      refine OL.nil ?_
      refine EX.seq ?_
      refine CW.cond rfl (fun h1 => ?_) (fun h1 => ?_)
      · repeat (first | replace h1 := yes h1 | replace h1 := no h1 | replace h1 := nyes h1 | replace h1 := nno h1)
        refine CW.seq ?_
        refine CW.region ?_
        refine OL.q (Y.assign rfl) rfl ?_
        refine OL.nil ?_
        refine EX.seq ?_
        refine CW.ret ?_
        refine EX.retB ?_
        refine EX.retT ?_
        refine EX.retT ?_
        refine EX.retB ?_
        refine EX.retT ?_
        have hb2 : l.any (bad v.sn) = true := any_mem (mem_of hp) (by unfold bad; simp; omega)
        exact EX.fin1 [] rfl rfl rfl ⟨by rw [hb2]; rfl, rfl⟩
      · repeat (first | replace h1 := yes h1 | replace h1 := no h1 | replace h1 := nyes h1 | replace h1 := nno h1)
        refine CW.skip ?_
        refine EX.norB ?_
        refine EX.seq ?_
        refine CW.region ?_
        refine OL.q (Y.add1 rfl rfl rfl (by omega)) rfl ?_
        refine OL.q (Y.move rfl) rfl ?_
        refine OL.nil ?_
        exact EX.next (k + 1) [] (show k + 1 ≤ n ∧ _ from ⟨by omega, by rw [any_take hp, hb, bad_false.2 ⟨by omega, by omega⟩]; rfl⟩) (show n - (k + 1) < n - k by omega) ⟨rfl, rfl, rfl, rfl, trivial⟩ rfl rfl
  · repeat (first | replace h0 := yes h0 | replace h0 := no h0 | replace h0 := nyes h0 | replace h0 := nno h0)
    refine CW.exit ?_
    refine EX.exitT ?_
    refine EX.exitT ?_
    refine EX.exitB ?_
    refine EX.seq ?_
    refine CW.seq ?_
    refine CW.region ?_
    refine OL.q (Y.assign rfl) rfl ?_
    refine OL.nil ?_
    refine EX.seq ?_
    refine CW.ret ?_
    have hkn : k = n := by omega
    subst hkn
    rw [List.take_of_length_le (by omega)] at hb
    exact EX.fin1 [] rfl rfl rfl ⟨by rw [hb]; rfl, rfl⟩

theorem equal_any (a b : Option Addr) (n c m d : Nat) (xs ys : List Int) (hx : xs.length = n) (hy : ys.length = m) (hn : n ≤ 1000000) :
    FS Tryd.prog 88 [.slice a n c, .slice b m d] (fun h => rd a n 1 (xs.map intCells) h ∧ rd b m 1 (ys.map intCells) h) [] (fun v H => v = .bool (decide (xs = ys)) ∧ H = []) := by
  refine FS.intro (N := 26) Tryd.func88 rfl rfl rfl (fun F w0 hF => ?_)
  refine CW.seq ?_
  refine CW.region ?_
  refine OL.q (Y.assign rfl) rfl ?_
  refine OL.nil ?_
  refine EX.seq ?_
  refine CW.seq ?_
  refine CW.seq ?_
  refine CW.region ?_
  refine OL.q (Y.move rfl) rfl ?_
  refine OL.q (Y.lenSl Tryd.underlying28 rfl) rfl ?_
  refine OL.q (Y.move rfl) rfl ?_
  refine OL.q (Y.lenSl Tryd.underlying28 rfl) rfl ?_
  refine OL.q (Y.neq rfl rfl) rfl ?_
  refine OL.nil ?_
  refine EX.seq ?_
  refine CW.cond rfl (fun h0 => ?_) (fun h0 => ?_)
  · repeat (first | replace h0 := yes h0 | replace h0 := no h0 | replace h0 := nyes h0 | replace h0 := nno h0)
    refine CW.seq ?_
    refine CW.region ?_
    refine OL.q (Y.assign rfl) rfl ?_
    refine OL.nil ?_
    refine EX.seq ?_
    refine CW.ret ?_
    refine EX.retT ?_
    have he : xs ≠ ys := fun e => by subst e; omega
    exact EX.fin1 [] rfl rfl rfl ⟨by simp [he], rfl⟩
  · repeat (first | replace h0 := yes h0 | replace h0 := no h0 | replace h0 := nyes h0 | replace h0 := nno h0)
    have hnm : n = m := by omega
    subst hnm
    refine CW.skip ?_
    refine EX.seq ?_
    refine CW.seq ?_
    refine CW.seq ?_
    refine CW.region ?_
    refine OL.q (Y.move rfl) rfl ?_
    refine OL.q (Y.lenSl Tryd.underlying28 rfl) rfl ?_
    refine OL.q (Y.move rfl) rfl ?_
    refine OL.nil ?_
    refine EX.seq ?_
    refine CW.block ?_
    refine CW.loop (α := Nat) ⟨fun k => k ≤ n ∧ xs.take k = ys.take k, fun k => [(0, .slice a n c), (1, .slice b n d), (12, .int .i64 n), (13, .int .i64 k)], fun _ => []⟩
      (fun k => n - k) 0 [] ⟨Nat.zero_le _, rfl⟩ ⟨rfl, rfl, rfl, rfl, trivial⟩ rfl rfl ?_
    rintro k ⟨hk, hj⟩
    dsimp only at hk hj ⊢
    refine CW.seq ?_
    refine CW.region ?_
    refine OL.q (Y.lss rfl rfl) rfl ?_
    refine OL.nil ?_
    refine EX.seq ?_
    refine CW.seq ?_
    refine CW.cond rfl (fun h1 => ?_) (fun h1 => ?_)
    · repeat (first | replace h1 := yes h1 | replace h1 := no h1 | replace h1 := nyes h1 | replace h1 := nno h1)
      obtain ⟨s, hp⟩ : ∃ p, xs[k]? = some p := ⟨_, List.getElem?_eq_getElem (by omega)⟩
      obtain ⟨s', hq⟩ : ∃ p, ys[k]? = some p := ⟨_, List.getElem?_eq_getElem (by omega)⟩
      refine CW.skip ?_
      refine EX.seq ?_
      refine CW.seq ?_
      refine CW.block ?_
      refine CW.seq ?_
      refine CW.region ?_
      refine OL.q (Y.move rfl) rfl ?_
      refine OL.q (Y.assign rfl) rfl ?_
      refine OL.nil ?_
      refine EX.seq ?_
      refine CW.seq ?_
      refine CW.drawn [(true, 0), (true, 1), (true, 2), (true, 3), (true, 4), (true, 5), (true, 6), (true, 7), (true, 8)] [] [] mixed (by kernel_rfl) (by repeat (first | exact PanicOk.body | refine PanicOk.then ?_ | refine PanicOk.block ?_)) (by kernel_rfl) rfl rfl rfl rfl ?_
      refine OL.qt (Y.move rfl) rfl ?_
      refine OL.qt (Y.move rfl) rfl ?_
      refine OL.qt (Y.index (k := k) Tryd.underlying28 C3 rfl rfl (Ent.frame (Up.rd _ _ _ _) (fun h hs => (hF h hs).1)) (by omega) (by omega)) rfl ?_
      refine OL.qt (Y.load T3 rfl (cellsIs_at0 (rd_at (Ent.frame (Up.rd _ _ _ _) (fun h hs => (hF h hs).1)) (mget intCells hp)) rfl)) rfl ?_
      refine OL.qt (Y.move rfl) rfl ?_
      refine OL.qt (Y.move rfl) rfl ?_
      refine OL.qt (Y.index (k := k) Tryd.underlying28 C3 rfl rfl (Ent.frame (Up.rd _ _ _ _) (fun h hs => (hF h hs).2)) (by omega) (by omega)) rfl ?_
      refine OL.qt (Y.load T3 rfl (cellsIs_at0 (rd_at (Ent.frame (Up.rd _ _ _ _) (fun h hs => (hF h hs).2)) (mget intCells hq)) rfl)) rfl ?_
      refine OL.qt (Y.neq rfl rfl) rfl ?_
      refine OL.nil ?_
      refine EX.tail ?_
      refine OL.nil ?_
      refine EX.seq ?_
      refine CW.cond rfl (fun h2 => ?_) (fun h2 => ?_)
      · repeat (first | replace h2 := yes h2 | replace h2 := no h2 | replace h2 := nyes h2 | replace h2 := nno h2)
        refine CW.seq ?_
        refine CW.region ?_
        refine OL.q (Y.assign rfl) rfl ?_
        refine OL.nil ?_
        refine EX.seq ?_
        refine CW.ret ?_
        refine EX.retB ?_
        refine EX.retT ?_
        refine EX.retT ?_
        refine EX.retB ?_
        refine EX.retT ?_
        have he : xs ≠ ys := fun e => by
          subst e
          rw [hp] at hq; cases hq
          exact h2 rfl
        exact EX.fin1 [] rfl rfl rfl ⟨by simp [he], rfl⟩
      · repeat (first | replace h2 := yes h2 | replace h2 := no h2 | replace h2 := nyes h2 | replace h2 := nno h2)
        refine CW.skip ?_
        refine EX.norB ?_
        refine EX.seq ?_
        refine CW.region ?_
        refine OL.q (Y.add1 rfl rfl rfl (by omega)) rfl ?_
        refine OL.q (Y.move rfl) rfl ?_
        refine OL.nil ?_
        refine EX.next (k + 1) [] (show k + 1 ≤ n ∧ _ from ⟨by omega, ?_⟩) (show n - (k + 1) < n - k by omega) ⟨rfl, rfl, rfl, rfl, trivial⟩ rfl rfl
        rw [take_snoc hp, take_snoc hq, hj]
        have : s = s' := Classical.not_not.1 h2
        rw [this]
    · repeat (first | replace h1 := yes h1 | replace h1 := no h1 | replace h1 := nyes h1 | replace h1 := nno h1)
      refine CW.exit ?_
      refine EX.exitT ?_
      refine EX.exitT ?_
      refine EX.exitB ?_
      refine EX.seq ?_
      refine CW.seq ?_
      refine CW.region ?_
      refine OL.q (Y.assign rfl) rfl ?_
      refine OL.nil ?_
      refine EX.seq ?_
      refine CW.ret ?_
      have hkn : k = n := by omega
      have he : xs = ys := by
        rw [List.take_of_length_le (by omega), List.take_of_length_le (by omega)] at hj
        exact hj
      exact EX.fin1 [] rfl rfl rfl ⟨by simp [he], rfl⟩


/-- Two terms, held against each other. -/
def sameT (x y : TermC) : Bool := decide (x.op = y.op) && decide (x.fn = y.fn) && decide (x.num = y.num) && decide (x.kids = y.kids)


theorem same_any (x y : TermC) (hx : x.kids.length = x.n) (hy : y.kids.length = y.n) (hn : x.n ≤ 1000000) :
    FS Tryd.prog 61 [termVal x, termVal y] (fun h => rd x.a x.n 1 (x.kids.map intCells) h ∧ rd y.a y.n 1 (y.kids.map intCells) h) [] (fun v H => v = .bool (sameT x y) ∧ H = []) := by
  refine FS.intro (N := 31) Tryd.func61 rfl rfl rfl (fun F w0 hF => ?_)
  refine CW.seq ?_
  refine CW.region ?_
  refine OL.box rfl rfl rfl (fun b2 => ⟨rfl, rfl, ?_⟩)
  refine OL.box rfl rfl rfl (fun b3 => ⟨rfl, rfl, ?_⟩)
  refine OL.q (Y.assign rfl) rfl ?_
  refine OL.nil ?_
  refine EX.seq ?_
  refine CW.seq ?_
  refine CW.region ?_
  refine OL.q (Y.field L30_0 rfl) rfl ?_
  refine OL.q (Y.load T3 rfl (Ent.at 0 rfl (Up.cellIs _ _ _) (blk_cell rfl))) rfl ?_
  refine OL.q (Y.field L30_0 rfl) rfl ?_
  refine OL.q (Y.load T3 rfl (Ent.at 1 rfl (Up.cellIs _ _ _) (blk_cell rfl))) rfl ?_
  refine OL.q (Y.eql rfl rfl) rfl ?_
  refine OL.q (Y.move rfl) rfl ?_
  refine OL.guard (s := 10) rfl (fun g1_5 => ?_) (fun g1_5 => ?_)
  · have ng1_5 := g1_5
    repeat (first | replace ng1_5 := yes ng1_5 | replace ng1_5 := no ng1_5 | replace ng1_5 := nyes ng1_5 | replace ng1_5 := nno ng1_5)
    refine OL.on g1_5 rfl rfl ?_
    refine OL.q (Y.field L30_1 rfl) rfl ?_
    refine OL.on g1_5 rfl rfl ?_
    refine OL.q (Y.load T3 rfl (Ent.at 0 rfl (Up.cellIs _ _ _) (blk_cell rfl))) rfl ?_
    refine OL.on g1_5 rfl rfl ?_
    refine OL.q (Y.field L30_1 rfl) rfl ?_
    refine OL.on g1_5 rfl rfl ?_
    refine OL.q (Y.load T3 rfl (Ent.at 1 rfl (Up.cellIs _ _ _) (blk_cell rfl))) rfl ?_
    refine OL.on g1_5 rfl rfl ?_
    refine OL.q (Y.eql rfl rfl) rfl ?_
    refine OL.q (Y.pickT rfl g1_5 rfl) rfl ?_
    refine OL.q (Y.move rfl) rfl ?_
    refine OL.guard (s := 17) rfl (fun g1_12 => ?_) (fun g1_12 => ?_)
    · have ng1_12 := g1_12
      repeat (first | replace ng1_12 := yes ng1_12 | replace ng1_12 := no ng1_12 | replace ng1_12 := nyes ng1_12 | replace ng1_12 := nno ng1_12)
      refine OL.on g1_12 rfl rfl ?_
      refine OL.q (Y.field L30_3 rfl) rfl ?_
      refine OL.on g1_12 rfl rfl ?_
      refine OL.q (Y.load T9 rfl (Ent.at 0 rfl (Up.cellIs _ _ _) (blk_cell rfl))) rfl ?_
      refine OL.on g1_12 rfl rfl ?_
      refine OL.q (Y.field L30_3 rfl) rfl ?_
      refine OL.on g1_12 rfl rfl ?_
      refine OL.q (Y.load T9 rfl (Ent.at 1 rfl (Up.cellIs _ _ _) (blk_cell rfl))) rfl ?_
      refine OL.on g1_12 rfl rfl ?_
      refine OL.q (Y.eqlS rfl rfl) rfl ?_
      refine OL.q (Y.pickT rfl g1_12 rfl) rfl ?_
      refine OL.q (Y.move rfl) rfl ?_
      refine OL.guard (s := 24) rfl (fun g1_19 => ?_) (fun g1_19 => ?_)
      · have ng1_19 := g1_19
        repeat (first | replace ng1_19 := yes ng1_19 | replace ng1_19 := no ng1_19 | replace ng1_19 := nyes ng1_19 | replace ng1_19 := nno ng1_19)
        refine OL.on g1_19 rfl rfl ?_
        refine OL.q (Y.field L30_2 rfl) rfl ?_
        refine OL.on g1_19 rfl rfl ?_
        refine OL.q (Y.load T28 rfl (Ent.at 0 rfl (Up.cellIs _ _ _) (blk_cell rfl))) rfl ?_
        refine OL.on g1_19 rfl rfl ?_
        refine OL.q (Y.field L30_2 rfl) rfl ?_
        refine OL.on g1_19 rfl rfl ?_
        refine OL.q (Y.load T28 rfl (Ent.at 1 rfl (Up.cellIs _ _ _) (blk_cell rfl))) rfl ?_
        refine OL.on g1_19 rfl rfl ?_
        refine OL.call [] (equal_any x.a y.a x.n x.c y.n y.c x.kids y.kids hx hy hn) Tryd.call88 rfl rfl rfl rfl (fun h hs => ⟨Ent.frame (Up.rd _ _ _ _) (fun h hs => (hF h hs).1) h hs, Ent.frame (Up.rd _ _ _ _) (fun h hs => (hF h hs).2) h hs⟩) rfl ?_
        rintro _ _ ⟨rfl, rfl⟩
        refine ⟨rfl, rfl, ?_⟩
        refine OL.q (Y.pickT rfl g1_19 rfl) rfl ?_
        refine OL.q (Y.assign rfl) rfl ?_
        refine OL.nil ?_
        refine EX.seq ?_
        refine CW.ret ?_
        exact EX.fin1 [] rfl rfl rfl ⟨congrArg Value.bool (by unfold sameT; first | contradiction | (simp [*]; done)), rfl⟩
      · have ng1_19 := g1_19
        repeat (first | replace ng1_19 := yes ng1_19 | replace ng1_19 := no ng1_19 | replace ng1_19 := nyes ng1_19 | replace ng1_19 := nno ng1_19)
        refine OL.no g1_19 rfl rfl rfl ?_
        refine OL.no g1_19 rfl rfl rfl ?_
        refine OL.no g1_19 rfl rfl rfl ?_
        refine OL.no g1_19 rfl rfl rfl ?_
        refine OL.no g1_19 rfl rfl rfl ?_
        refine OL.q (Y.pickF rfl g1_19 rfl) rfl ?_
        refine OL.q (Y.assign rfl) rfl ?_
        refine OL.nil ?_
        refine EX.seq ?_
        refine CW.ret ?_
        exact EX.fin1 [] rfl rfl rfl ⟨congrArg Value.bool (by unfold sameT; first | contradiction | (simp [*]; done)), rfl⟩
    · have ng1_12 := g1_12
      repeat (first | replace ng1_12 := yes ng1_12 | replace ng1_12 := no ng1_12 | replace ng1_12 := nyes ng1_12 | replace ng1_12 := nno ng1_12)
      refine OL.no g1_12 rfl rfl rfl ?_
      refine OL.no g1_12 rfl rfl rfl ?_
      refine OL.no g1_12 rfl rfl rfl ?_
      refine OL.no g1_12 rfl rfl rfl ?_
      refine OL.no g1_12 rfl rfl rfl ?_
      refine OL.q (Y.pickF rfl g1_12 rfl) rfl ?_
      refine OL.q (Y.move rfl) rfl ?_
      refine OL.guard (s := 24) rfl (fun g1_19 => ?_) (fun g1_19 => ?_)
      · have ng1_19 := g1_19
        repeat (first | replace ng1_19 := yes ng1_19 | replace ng1_19 := no ng1_19 | replace ng1_19 := nyes ng1_19 | replace ng1_19 := nno ng1_19)
        refine OL.on g1_19 rfl rfl ?_
        refine OL.q (Y.field L30_2 rfl) rfl ?_
        refine OL.on g1_19 rfl rfl ?_
        refine OL.q (Y.load T28 rfl (Ent.at 0 rfl (Up.cellIs _ _ _) (blk_cell rfl))) rfl ?_
        refine OL.on g1_19 rfl rfl ?_
        refine OL.q (Y.field L30_2 rfl) rfl ?_
        refine OL.on g1_19 rfl rfl ?_
        refine OL.q (Y.load T28 rfl (Ent.at 1 rfl (Up.cellIs _ _ _) (blk_cell rfl))) rfl ?_
        refine OL.on g1_19 rfl rfl ?_
        refine OL.call [] (equal_any x.a y.a x.n x.c y.n y.c x.kids y.kids hx hy hn) Tryd.call88 rfl rfl rfl rfl (fun h hs => ⟨Ent.frame (Up.rd _ _ _ _) (fun h hs => (hF h hs).1) h hs, Ent.frame (Up.rd _ _ _ _) (fun h hs => (hF h hs).2) h hs⟩) rfl ?_
        rintro _ _ ⟨rfl, rfl⟩
        refine ⟨rfl, rfl, ?_⟩
        refine OL.q (Y.pickT rfl g1_19 rfl) rfl ?_
        refine OL.q (Y.assign rfl) rfl ?_
        refine OL.nil ?_
        refine EX.seq ?_
        refine CW.ret ?_
        exact EX.fin1 [] rfl rfl rfl ⟨congrArg Value.bool (by unfold sameT; first | contradiction | (simp [*]; done)), rfl⟩
      · have ng1_19 := g1_19
        repeat (first | replace ng1_19 := yes ng1_19 | replace ng1_19 := no ng1_19 | replace ng1_19 := nyes ng1_19 | replace ng1_19 := nno ng1_19)
        refine OL.no g1_19 rfl rfl rfl ?_
        refine OL.no g1_19 rfl rfl rfl ?_
        refine OL.no g1_19 rfl rfl rfl ?_
        refine OL.no g1_19 rfl rfl rfl ?_
        refine OL.no g1_19 rfl rfl rfl ?_
        refine OL.q (Y.pickF rfl g1_19 rfl) rfl ?_
        refine OL.q (Y.assign rfl) rfl ?_
        refine OL.nil ?_
        refine EX.seq ?_
        refine CW.ret ?_
        exact EX.fin1 [] rfl rfl rfl ⟨congrArg Value.bool (by unfold sameT; first | contradiction | (simp [*]; done)), rfl⟩
  · have ng1_5 := g1_5
    repeat (first | replace ng1_5 := yes ng1_5 | replace ng1_5 := no ng1_5 | replace ng1_5 := nyes ng1_5 | replace ng1_5 := nno ng1_5)
    refine OL.no g1_5 rfl rfl rfl ?_
    refine OL.no g1_5 rfl rfl rfl ?_
    refine OL.no g1_5 rfl rfl rfl ?_
    refine OL.no g1_5 rfl rfl rfl ?_
    refine OL.no g1_5 rfl rfl rfl ?_
    refine OL.q (Y.pickF rfl g1_5 rfl) rfl ?_
    refine OL.q (Y.move rfl) rfl ?_
    refine OL.guard (s := 17) rfl (fun g1_12 => ?_) (fun g1_12 => ?_)
    · have ng1_12 := g1_12
      repeat (first | replace ng1_12 := yes ng1_12 | replace ng1_12 := no ng1_12 | replace ng1_12 := nyes ng1_12 | replace ng1_12 := nno ng1_12)
      refine OL.on g1_12 rfl rfl ?_
      refine OL.q (Y.field L30_3 rfl) rfl ?_
      refine OL.on g1_12 rfl rfl ?_
      refine OL.q (Y.load T9 rfl (Ent.at 0 rfl (Up.cellIs _ _ _) (blk_cell rfl))) rfl ?_
      refine OL.on g1_12 rfl rfl ?_
      refine OL.q (Y.field L30_3 rfl) rfl ?_
      refine OL.on g1_12 rfl rfl ?_
      refine OL.q (Y.load T9 rfl (Ent.at 1 rfl (Up.cellIs _ _ _) (blk_cell rfl))) rfl ?_
      refine OL.on g1_12 rfl rfl ?_
      refine OL.q (Y.eqlS rfl rfl) rfl ?_
      refine OL.q (Y.pickT rfl g1_12 rfl) rfl ?_
      refine OL.q (Y.move rfl) rfl ?_
      refine OL.guard (s := 24) rfl (fun g1_19 => ?_) (fun g1_19 => ?_)
      · have ng1_19 := g1_19
        repeat (first | replace ng1_19 := yes ng1_19 | replace ng1_19 := no ng1_19 | replace ng1_19 := nyes ng1_19 | replace ng1_19 := nno ng1_19)
        refine OL.on g1_19 rfl rfl ?_
        refine OL.q (Y.field L30_2 rfl) rfl ?_
        refine OL.on g1_19 rfl rfl ?_
        refine OL.q (Y.load T28 rfl (Ent.at 0 rfl (Up.cellIs _ _ _) (blk_cell rfl))) rfl ?_
        refine OL.on g1_19 rfl rfl ?_
        refine OL.q (Y.field L30_2 rfl) rfl ?_
        refine OL.on g1_19 rfl rfl ?_
        refine OL.q (Y.load T28 rfl (Ent.at 1 rfl (Up.cellIs _ _ _) (blk_cell rfl))) rfl ?_
        refine OL.on g1_19 rfl rfl ?_
        refine OL.call [] (equal_any x.a y.a x.n x.c y.n y.c x.kids y.kids hx hy hn) Tryd.call88 rfl rfl rfl rfl (fun h hs => ⟨Ent.frame (Up.rd _ _ _ _) (fun h hs => (hF h hs).1) h hs, Ent.frame (Up.rd _ _ _ _) (fun h hs => (hF h hs).2) h hs⟩) rfl ?_
        rintro _ _ ⟨rfl, rfl⟩
        refine ⟨rfl, rfl, ?_⟩
        refine OL.q (Y.pickT rfl g1_19 rfl) rfl ?_
        refine OL.q (Y.assign rfl) rfl ?_
        refine OL.nil ?_
        refine EX.seq ?_
        refine CW.ret ?_
        exact EX.fin1 [] rfl rfl rfl ⟨congrArg Value.bool (by unfold sameT; first | contradiction | (simp [*]; done)), rfl⟩
      · have ng1_19 := g1_19
        repeat (first | replace ng1_19 := yes ng1_19 | replace ng1_19 := no ng1_19 | replace ng1_19 := nyes ng1_19 | replace ng1_19 := nno ng1_19)
        refine OL.no g1_19 rfl rfl rfl ?_
        refine OL.no g1_19 rfl rfl rfl ?_
        refine OL.no g1_19 rfl rfl rfl ?_
        refine OL.no g1_19 rfl rfl rfl ?_
        refine OL.no g1_19 rfl rfl rfl ?_
        refine OL.q (Y.pickF rfl g1_19 rfl) rfl ?_
        refine OL.q (Y.assign rfl) rfl ?_
        refine OL.nil ?_
        refine EX.seq ?_
        refine CW.ret ?_
        exact EX.fin1 [] rfl rfl rfl ⟨congrArg Value.bool (by unfold sameT; first | contradiction | (simp [*]; done)), rfl⟩
    · have ng1_12 := g1_12
      repeat (first | replace ng1_12 := yes ng1_12 | replace ng1_12 := no ng1_12 | replace ng1_12 := nyes ng1_12 | replace ng1_12 := nno ng1_12)
      refine OL.no g1_12 rfl rfl rfl ?_
      refine OL.no g1_12 rfl rfl rfl ?_
      refine OL.no g1_12 rfl rfl rfl ?_
      refine OL.no g1_12 rfl rfl rfl ?_
      refine OL.no g1_12 rfl rfl rfl ?_
      refine OL.q (Y.pickF rfl g1_12 rfl) rfl ?_
      refine OL.q (Y.move rfl) rfl ?_
      refine OL.guard (s := 24) rfl (fun g1_19 => ?_) (fun g1_19 => ?_)
      · have ng1_19 := g1_19
        repeat (first | replace ng1_19 := yes ng1_19 | replace ng1_19 := no ng1_19 | replace ng1_19 := nyes ng1_19 | replace ng1_19 := nno ng1_19)
        refine OL.on g1_19 rfl rfl ?_
        refine OL.q (Y.field L30_2 rfl) rfl ?_
        refine OL.on g1_19 rfl rfl ?_
        refine OL.q (Y.load T28 rfl (Ent.at 0 rfl (Up.cellIs _ _ _) (blk_cell rfl))) rfl ?_
        refine OL.on g1_19 rfl rfl ?_
        refine OL.q (Y.field L30_2 rfl) rfl ?_
        refine OL.on g1_19 rfl rfl ?_
        refine OL.q (Y.load T28 rfl (Ent.at 1 rfl (Up.cellIs _ _ _) (blk_cell rfl))) rfl ?_
        refine OL.on g1_19 rfl rfl ?_
        refine OL.call [] (equal_any x.a y.a x.n x.c y.n y.c x.kids y.kids hx hy hn) Tryd.call88 rfl rfl rfl rfl (fun h hs => ⟨Ent.frame (Up.rd _ _ _ _) (fun h hs => (hF h hs).1) h hs, Ent.frame (Up.rd _ _ _ _) (fun h hs => (hF h hs).2) h hs⟩) rfl ?_
        rintro _ _ ⟨rfl, rfl⟩
        refine ⟨rfl, rfl, ?_⟩
        refine OL.q (Y.pickT rfl g1_19 rfl) rfl ?_
        refine OL.q (Y.assign rfl) rfl ?_
        refine OL.nil ?_
        refine EX.seq ?_
        refine CW.ret ?_
        exact EX.fin1 [] rfl rfl rfl ⟨congrArg Value.bool (by unfold sameT; first | contradiction | (simp [*]; done)), rfl⟩
      · have ng1_19 := g1_19
        repeat (first | replace ng1_19 := yes ng1_19 | replace ng1_19 := no ng1_19 | replace ng1_19 := nyes ng1_19 | replace ng1_19 := nno ng1_19)
        refine OL.no g1_19 rfl rfl rfl ?_
        refine OL.no g1_19 rfl rfl rfl ?_
        refine OL.no g1_19 rfl rfl rfl ?_
        refine OL.no g1_19 rfl rfl rfl ?_
        refine OL.no g1_19 rfl rfl rfl ?_
        refine OL.q (Y.pickF rfl g1_19 rfl) rfl ?_
        refine OL.q (Y.assign rfl) rfl ?_
        refine OL.nil ?_
        refine EX.seq ?_
        refine CW.ret ?_
        exact EX.fin1 [] rfl rfl rfl ⟨congrArg Value.bool (by unfold sameT; first | contradiction | (simp [*]; done)), rfl⟩


def at0 (s : ByteArray) (j : Nat) : Nat := (s.data.toList.getD j 0).toNat
theorem at0_eq {s : ByteArray} {k : Nat} (h : k < s.size) : (s[k].toNat : Int) = at0 s k := by
  unfold at0
  have h1 : k < s.data.toList.length := by rw [Array.length_toList]; exact h
  rw [List.getD_eq_getElem?_getD, List.getElem?_eq_getElem h1]
  rfl
def digB (s : ByteArray) (j : Nat) : Bool := decide (48 ≤ at0 s j) && decide (at0 s j ≤ 57)
/-- Is a text a numeral? -/
def numB (s : ByteArray) : Bool := !(decide (s.size = 0) || decide (10000 < s.size) || (decide (1 < s.size) && decide (at0 s 0 = 48))) && (List.range s.size).all (digB s)
theorem all_range {p : Nat → Bool} {n : Nat} : (List.range n).all p = true ↔ ∀ j, j < n → p j = true := by simp
theorem not_all_range {p : Nat → Bool} {n k : Nat} (hk : k < n) (h : p k = false) : (List.range n).all p = false := by
  cases ha : (List.range n).all p with
  | false => rfl
  | true => rw [all_range.1 ha k hk] at h; cases h


theorem isNumeral_any (s : ByteArray) :
    FS Tryd.prog 86 [.string s] (nothing) [] (fun v H => v = .bool (numB s) ∧ H = []) := by
  refine FS.intro (N := 38) Tryd.func86 rfl rfl rfl (fun F w0 hF => ?_)
  refine CW.seq ?_
  refine CW.region ?_
  refine OL.q (Y.assign rfl) rfl ?_
  refine OL.nil ?_
  refine EX.seq ?_
  refine CW.seq ?_
  refine CW.seq ?_
  refine CW.region ?_
  refine OL.q (Y.move rfl) rfl ?_
  refine OL.q (Y.lenStr Tryd.underlying9 rfl) rfl ?_
  refine OL.q (Y.eql rfl rfl) rfl ?_
  refine OL.q (Y.move rfl) rfl ?_
  refine OL.guard (s := 7) rfl (fun g1_3 => ?_) (fun g1_3 => ?_)
  · have ng1_3 := g1_3
    repeat (first | replace ng1_3 := yes ng1_3 | replace ng1_3 := no ng1_3 | replace ng1_3 := nyes ng1_3 | replace ng1_3 := nno ng1_3)
    refine OL.no g1_3 rfl rfl rfl ?_
    refine OL.no g1_3 rfl rfl rfl ?_
    refine OL.no g1_3 rfl rfl rfl ?_
    refine OL.q (Y.pickT rfl g1_3 rfl) rfl ?_
    refine OL.q (Y.move rfl) rfl ?_
    refine OL.guard (s := 12) rfl (fun g1_8 => ?_) (fun g1_8 => ?_)
    · have ng1_8 := g1_8
      repeat (first | replace ng1_8 := yes ng1_8 | replace ng1_8 := no ng1_8 | replace ng1_8 := nyes ng1_8 | replace ng1_8 := nno ng1_8)
      refine OL.no g1_8 rfl rfl rfl ?_
      refine OL.no g1_8 rfl rfl rfl ?_
      refine OL.no g1_8 rfl rfl rfl ?_
      refine OL.no g1_8 rfl rfl rfl ?_
      refine OL.dead rfl rfl rfl ?_
      refine OL.dead rfl rfl rfl ?_
      refine OL.dead rfl rfl rfl ?_
      refine OL.no g1_8 rfl rfl rfl ?_
      refine OL.q (Y.pickT rfl g1_8 rfl) rfl ?_
      refine OL.nil ?_
      refine EX.seq ?_
      refine CW.cond rfl (fun h0 => ?_) (fun h0 => ?_)
      rotate_left
      · repeat (first | replace h0 := yes h0 | replace h0 := no h0 | replace h0 := nyes h0 | replace h0 := nno h0)
        exfalso
        first | omega | contradiction | exact absurd rfl h0 | exact absurd h0 (by simp) | exact absurd h0 (by decide)
      repeat (first | replace h0 := yes h0 | replace h0 := no h0 | replace h0 := nyes h0 | replace h0 := nno h0)
      refine CW.seq ?_
      refine CW.region ?_
      refine OL.q (Y.assign rfl) rfl ?_
      refine OL.nil ?_
      refine EX.seq ?_
      refine CW.ret ?_
      refine EX.retT ?_
      have hb : numB s = false := by
        unfold numB
        rcases (show s.size = 0 ∨ 10000 < s.size by omega) with e | e <;> rw [decide_eq_true e] <;> simp
      exact EX.fin1 [] rfl rfl rfl ⟨by rw [hb], rfl⟩
    · have ng1_8 := g1_8
      repeat (first | replace ng1_8 := yes ng1_8 | replace ng1_8 := no ng1_8 | replace ng1_8 := nyes ng1_8 | replace ng1_8 := nno ng1_8)
      exfalso
      first | omega | contradiction | exact absurd rfl ng1_8 | exact absurd ng1_8 (by simp) | exact absurd ng1_8 (by decide)
  · have ng1_3 := g1_3
    repeat (first | replace ng1_3 := yes ng1_3 | replace ng1_3 := no ng1_3 | replace ng1_3 := nyes ng1_3 | replace ng1_3 := nno ng1_3)
    refine OL.on g1_3 rfl rfl ?_
    refine OL.q (Y.move rfl) rfl ?_
    refine OL.on g1_3 rfl rfl ?_
    refine OL.q (Y.lenStr Tryd.underlying9 rfl) rfl ?_
    refine OL.on g1_3 rfl rfl ?_
    refine OL.q (Y.gtr rfl rfl) rfl ?_
    refine OL.q (Y.pickF rfl g1_3 rfl) rfl ?_
    refine OL.q (Y.move rfl) rfl ?_
    refine OL.guard (s := 12) rfl (fun g1_8 => ?_) (fun g1_8 => ?_)
    · have ng1_8 := g1_8
      repeat (first | replace ng1_8 := yes ng1_8 | replace ng1_8 := no ng1_8 | replace ng1_8 := nyes ng1_8 | replace ng1_8 := nno ng1_8)
      refine OL.no g1_8 rfl rfl rfl ?_
      refine OL.no g1_8 rfl rfl rfl ?_
      refine OL.no g1_8 rfl rfl rfl ?_
      refine OL.no g1_8 rfl rfl rfl ?_
      refine OL.dead rfl rfl rfl ?_
      refine OL.dead rfl rfl rfl ?_
      refine OL.dead rfl rfl rfl ?_
      refine OL.no g1_8 rfl rfl rfl ?_
      refine OL.q (Y.pickT rfl g1_8 rfl) rfl ?_
      refine OL.nil ?_
      refine EX.seq ?_
      refine CW.cond rfl (fun h0 => ?_) (fun h0 => ?_)
      rotate_left
      · repeat (first | replace h0 := yes h0 | replace h0 := no h0 | replace h0 := nyes h0 | replace h0 := nno h0)
        exfalso
        first | omega | contradiction | exact absurd rfl h0 | exact absurd h0 (by simp) | exact absurd h0 (by decide)
      repeat (first | replace h0 := yes h0 | replace h0 := no h0 | replace h0 := nyes h0 | replace h0 := nno h0)
      refine CW.seq ?_
      refine CW.region ?_
      refine OL.q (Y.assign rfl) rfl ?_
      refine OL.nil ?_
      refine EX.seq ?_
      refine CW.ret ?_
      refine EX.retT ?_
      have hb : numB s = false := by
        unfold numB
        rcases (show s.size = 0 ∨ 10000 < s.size by omega) with e | e <;> rw [decide_eq_true e] <;> simp
      exact EX.fin1 [] rfl rfl rfl ⟨by rw [hb], rfl⟩
    · have ng1_8 := g1_8
      repeat (first | replace ng1_8 := yes ng1_8 | replace ng1_8 := no ng1_8 | replace ng1_8 := nyes ng1_8 | replace ng1_8 := nno ng1_8)
      refine OL.on g1_8 rfl rfl ?_
      refine OL.q (Y.move rfl) rfl ?_
      refine OL.on g1_8 rfl rfl ?_
      refine OL.q (Y.lenStr Tryd.underlying9 rfl) rfl ?_
      refine OL.on g1_8 rfl rfl ?_
      refine OL.q (Y.gtr rfl rfl) rfl ?_
      refine OL.on g1_8 rfl rfl ?_
      refine OL.q (Y.move rfl) rfl ?_
      refine OL.guard (s := 16) rfl (fun g1_12 => ?_) (fun g1_12 => ?_)
      · have ng1_12 := g1_12
        repeat (first | replace ng1_12 := yes ng1_12 | replace ng1_12 := no ng1_12 | replace ng1_12 := nyes ng1_12 | replace ng1_12 := nno ng1_12)
        refine OL.on g1_12 rfl rfl ?_
        refine OL.q (Y.move rfl) rfl ?_
        refine OL.on g1_12 rfl rfl ?_
        refine OL.q (Y.indexStr (k := 0) Tryd.underlying9 rfl rfl rfl (by omega)) rfl ?_
        refine OL.on g1_12 rfl rfl ?_
        refine OL.q (Y.eql rfl rfl) rfl ?_
        refine OL.on g1_8 rfl rfl ?_
        refine OL.q (Y.pickT rfl g1_12 rfl) rfl ?_
        refine OL.q (Y.pickF rfl g1_8 rfl) rfl ?_
        refine OL.nil ?_
        refine EX.seq ?_
        refine CW.cond rfl (fun h0 => ?_) (fun h0 => ?_)
        · repeat (first | replace h0 := yes h0 | replace h0 := no h0 | replace h0 := nyes h0 | replace h0 := nno h0)
          refine CW.seq ?_
          refine CW.region ?_
          refine OL.q (Y.assign rfl) rfl ?_
          refine OL.nil ?_
          refine EX.seq ?_
          refine CW.ret ?_
          refine EX.retT ?_
          have h9 := at0_eq (s := s) (k := 0) (by omega)
          have h8 : at0 s 0 = 48 := by omega
          have hb : numB s = false := by
            unfold numB
            rw [decide_eq_true (show 1 < s.size by omega), decide_eq_true h8]
            simp
          exact EX.fin1 [] rfl rfl rfl ⟨by rw [hb], rfl⟩
        · repeat (first | replace h0 := yes h0 | replace h0 := no h0 | replace h0 := nyes h0 | replace h0 := nno h0)
          have hsz : s.size ≤ 10000 := by omega
          have h9 := at0_eq (s := s) (k := 0) (by omega)
          have h8 : ¬ at0 s 0 = 48 := by omega
          have hpre : (decide (s.size = 0) || decide (10000 < s.size) || (decide (1 < s.size) && decide (at0 s 0 = 48))) = false := by
            rw [decide_eq_false (show ¬ s.size = 0 by omega), decide_eq_false (show ¬ 10000 < s.size by omega), decide_eq_false h8]
            simp
          refine CW.skip ?_
          refine EX.seq ?_
          refine CW.seq ?_
          refine CW.seq ?_
          refine CW.region ?_
          refine OL.q (Y.move rfl) rfl ?_
          refine OL.q (Y.lenStr Tryd.underlying9 rfl) rfl ?_
          refine OL.q (Y.move rfl) rfl ?_
          refine OL.nil ?_
          refine EX.seq ?_
          refine CW.block ?_
          refine CW.loop (α := Nat) ⟨fun k => k ≤ s.size ∧ ∀ j, j < k → digB s j = true, fun k => [(0, .string s), (23, .int .i64 s.size), (24, .int .i64 k)], fun _ => []⟩
            (fun k => s.size - k) 0 [] ⟨Nat.zero_le _, fun j h => absurd h (Nat.not_lt_zero _)⟩ ⟨rfl, rfl, rfl, trivial⟩ rfl rfl ?_
          rintro k ⟨hk, hj⟩
          dsimp only at hk hj ⊢
          refine CW.seq ?_
          refine CW.region ?_
          refine OL.q (Y.lss rfl rfl) rfl ?_
          refine OL.nil ?_
          refine EX.seq ?_
          refine CW.seq ?_
          refine CW.cond rfl (fun h1 => ?_) (fun h1 => ?_)
          · repeat (first | replace h1 := yes h1 | replace h1 := no h1 | replace h1 := nyes h1 | replace h1 := nno h1)
            have hks : k < s.size := by omega
            refine CW.skip ?_
            refine EX.seq ?_
            refine CW.seq ?_
            refine CW.block ?_
            refine CW.seq ?_
            refine CW.region ?_
            refine OL.q (Y.move rfl) rfl ?_
            refine OL.q (Y.assign rfl) rfl ?_
            refine OL.nil ?_
            refine EX.seq ?_
            refine CW.seq ?_
            refine CW.region ?_
            refine OL.q (Y.move rfl) rfl ?_
            refine OL.q (Y.move rfl) rfl ?_
            refine OL.q (Y.indexStr (k := k) Tryd.underlying9 rfl rfl rfl (by omega)) rfl ?_
            refine OL.q (Y.lss rfl rfl) rfl ?_
            refine OL.q (Y.move rfl) rfl ?_
            refine OL.guard (s := 31) rfl (fun g6_4 => ?_) (fun g6_4 => ?_)
            · have ng6_4 := g6_4
              repeat (first | replace ng6_4 := yes ng6_4 | replace ng6_4 := no ng6_4 | replace ng6_4 := nyes ng6_4 | replace ng6_4 := nno ng6_4)
              refine OL.no g6_4 rfl rfl rfl ?_
              refine OL.no g6_4 rfl rfl rfl ?_
              refine OL.no g6_4 rfl rfl rfl ?_
              refine OL.no g6_4 rfl rfl rfl ?_
              refine OL.q (Y.pickT rfl g6_4 rfl) rfl ?_
              refine OL.nil ?_
              refine EX.seq ?_
              refine CW.cond rfl (fun h2 => ?_) (fun h2 => ?_)
              rotate_left
              · repeat (first | replace h2 := yes h2 | replace h2 := no h2 | replace h2 := nyes h2 | replace h2 := nno h2)
                exfalso
                first | omega | contradiction | exact absurd rfl h2 | exact absurd h2 (by simp) | exact absurd h2 (by decide)
              repeat (first | replace h2 := yes h2 | replace h2 := no h2 | replace h2 := nyes h2 | replace h2 := nno h2)
              refine CW.seq ?_
              refine CW.region ?_
              refine OL.q (Y.assign rfl) rfl ?_
              refine OL.nil ?_
              refine EX.seq ?_
              refine CW.ret ?_
              refine EX.retB ?_
              refine EX.retT ?_
              refine EX.retT ?_
              refine EX.retB ?_
              refine EX.retT ?_
              have hd : digB s k = false := by
                have := at0_eq (s := s) (k := k) (by omega)
                unfold digB
                simp; omega
              have hb : numB s = false := by unfold numB; rw [not_all_range (by omega) hd]; simp
              exact EX.fin1 [] rfl rfl rfl ⟨by rw [hb], rfl⟩
            · have ng6_4 := g6_4
              repeat (first | replace ng6_4 := yes ng6_4 | replace ng6_4 := no ng6_4 | replace ng6_4 := nyes ng6_4 | replace ng6_4 := nno ng6_4)
              refine OL.on g6_4 rfl rfl ?_
              refine OL.q (Y.move rfl) rfl ?_
              refine OL.on g6_4 rfl rfl ?_
              refine OL.q (Y.move rfl) rfl ?_
              refine OL.on g6_4 rfl rfl ?_
              refine OL.q (Y.indexStr (k := k) Tryd.underlying9 rfl rfl rfl (by omega)) rfl ?_
              refine OL.on g6_4 rfl rfl ?_
              refine OL.q (Y.gtr rfl rfl) rfl ?_
              refine OL.q (Y.pickF rfl g6_4 rfl) rfl ?_
              refine OL.nil ?_
              refine EX.seq ?_
              refine CW.cond rfl (fun h2 => ?_) (fun h2 => ?_)
              · repeat (first | replace h2 := yes h2 | replace h2 := no h2 | replace h2 := nyes h2 | replace h2 := nno h2)
                refine CW.seq ?_
                refine CW.region ?_
                refine OL.q (Y.assign rfl) rfl ?_
                refine OL.nil ?_
                refine EX.seq ?_
                refine CW.ret ?_
                refine EX.retB ?_
                refine EX.retT ?_
                refine EX.retT ?_
                refine EX.retB ?_
                refine EX.retT ?_
                have hd : digB s k = false := by
                  have := at0_eq (s := s) (k := k) (by omega)
                  unfold digB
                  simp; omega
                have hb : numB s = false := by unfold numB; rw [not_all_range (by omega) hd]; simp
                exact EX.fin1 [] rfl rfl rfl ⟨by rw [hb], rfl⟩
              · repeat (first | replace h2 := yes h2 | replace h2 := no h2 | replace h2 := nyes h2 | replace h2 := nno h2)
                refine CW.skip ?_
                refine EX.norB ?_
                refine EX.seq ?_
                refine CW.region ?_
                refine OL.q (Y.add1 rfl rfl rfl (by omega)) rfl ?_
                refine OL.q (Y.move rfl) rfl ?_
                refine OL.nil ?_
                have hd : digB s k = true := by
                  have := at0_eq (s := s) (k := k) (by omega)
                  unfold digB
                  simp; omega
                exact EX.next (k + 1) [] (show k + 1 ≤ s.size ∧ ∀ j, j < k + 1 → digB s j = true from ⟨by omega, fun j h => by
                  by_cases e : j = k
                  · rw [e]; exact hd
                  · exact hj j (by omega)⟩) (show s.size - (k + 1) < s.size - k by omega) ⟨rfl, rfl, rfl, trivial⟩ rfl rfl
          · repeat (first | replace h1 := yes h1 | replace h1 := no h1 | replace h1 := nyes h1 | replace h1 := nno h1)
            refine CW.exit ?_
            refine EX.exitT ?_
            refine EX.exitT ?_
            refine EX.exitB ?_
            refine EX.seq ?_
            refine CW.seq ?_
            refine CW.region ?_
            refine OL.q (Y.assign rfl) rfl ?_
            refine OL.nil ?_
            refine EX.seq ?_
            refine CW.ret ?_
            have hb : numB s = true := by unfold numB; rw [hpre, all_range.2 (fun j h => hj j (by omega))]; rfl
            exact EX.fin1 [] rfl rfl rfl ⟨by rw [hb], rfl⟩
      · have ng1_12 := g1_12
        repeat (first | replace ng1_12 := yes ng1_12 | replace ng1_12 := no ng1_12 | replace ng1_12 := nyes ng1_12 | replace ng1_12 := nno ng1_12)
        refine OL.no g1_12 rfl rfl rfl ?_
        refine OL.no g1_12 rfl rfl rfl ?_
        refine OL.no g1_12 rfl rfl rfl ?_
        refine OL.on g1_8 rfl rfl ?_
        refine OL.q (Y.pickF rfl g1_12 rfl) rfl ?_
        refine OL.q (Y.pickF rfl g1_8 rfl) rfl ?_
        refine OL.nil ?_
        refine EX.seq ?_
        refine CW.cond rfl (fun h0 => ?_) (fun h0 => ?_)
        · repeat (first | replace h0 := yes h0 | replace h0 := no h0 | replace h0 := nyes h0 | replace h0 := nno h0)
          exfalso
          first | omega | contradiction | exact absurd rfl h0 | exact absurd h0 (by simp) | exact absurd h0 (by decide)
        repeat (first | replace h0 := yes h0 | replace h0 := no h0 | replace h0 := nyes h0 | replace h0 := nno h0)
        have hsz : s.size ≤ 10000 := by omega
        have hpre : (decide (s.size = 0) || decide (10000 < s.size) || (decide (1 < s.size) && decide (at0 s 0 = 48))) = false := by
          rw [decide_eq_false (show ¬ s.size = 0 by omega), decide_eq_false (show ¬ 10000 < s.size by omega), decide_eq_false (show ¬ 1 < s.size by omega)]
          rfl
        refine CW.skip ?_
        refine EX.seq ?_
        refine CW.seq ?_
        refine CW.seq ?_
        refine CW.region ?_
        refine OL.q (Y.move rfl) rfl ?_
        refine OL.q (Y.lenStr Tryd.underlying9 rfl) rfl ?_
        refine OL.q (Y.move rfl) rfl ?_
        refine OL.nil ?_
        refine EX.seq ?_
        refine CW.block ?_
        refine CW.loop (α := Nat) ⟨fun k => k ≤ s.size ∧ ∀ j, j < k → digB s j = true, fun k => [(0, .string s), (23, .int .i64 s.size), (24, .int .i64 k)], fun _ => []⟩
          (fun k => s.size - k) 0 [] ⟨Nat.zero_le _, fun j h => absurd h (Nat.not_lt_zero _)⟩ ⟨rfl, rfl, rfl, trivial⟩ rfl rfl ?_
        rintro k ⟨hk, hj⟩
        dsimp only at hk hj ⊢
        refine CW.seq ?_
        refine CW.region ?_
        refine OL.q (Y.lss rfl rfl) rfl ?_
        refine OL.nil ?_
        refine EX.seq ?_
        refine CW.seq ?_
        refine CW.cond rfl (fun h1 => ?_) (fun h1 => ?_)
        · repeat (first | replace h1 := yes h1 | replace h1 := no h1 | replace h1 := nyes h1 | replace h1 := nno h1)
          have hks : k < s.size := by omega
          refine CW.skip ?_
          refine EX.seq ?_
          refine CW.seq ?_
          refine CW.block ?_
          refine CW.seq ?_
          refine CW.region ?_
          refine OL.q (Y.move rfl) rfl ?_
          refine OL.q (Y.assign rfl) rfl ?_
          refine OL.nil ?_
          refine EX.seq ?_
          refine CW.seq ?_
          refine CW.region ?_
          refine OL.q (Y.move rfl) rfl ?_
          refine OL.q (Y.move rfl) rfl ?_
          refine OL.q (Y.indexStr (k := k) Tryd.underlying9 rfl rfl rfl (by omega)) rfl ?_
          refine OL.q (Y.lss rfl rfl) rfl ?_
          refine OL.q (Y.move rfl) rfl ?_
          refine OL.guard (s := 31) rfl (fun g6_4 => ?_) (fun g6_4 => ?_)
          · have ng6_4 := g6_4
            repeat (first | replace ng6_4 := yes ng6_4 | replace ng6_4 := no ng6_4 | replace ng6_4 := nyes ng6_4 | replace ng6_4 := nno ng6_4)
            refine OL.no g6_4 rfl rfl rfl ?_
            refine OL.no g6_4 rfl rfl rfl ?_
            refine OL.no g6_4 rfl rfl rfl ?_
            refine OL.no g6_4 rfl rfl rfl ?_
            refine OL.q (Y.pickT rfl g6_4 rfl) rfl ?_
            refine OL.nil ?_
            refine EX.seq ?_
            refine CW.cond rfl (fun h2 => ?_) (fun h2 => ?_)
            rotate_left
            · repeat (first | replace h2 := yes h2 | replace h2 := no h2 | replace h2 := nyes h2 | replace h2 := nno h2)
              exfalso
              first | omega | contradiction | exact absurd rfl h2 | exact absurd h2 (by simp) | exact absurd h2 (by decide)
            repeat (first | replace h2 := yes h2 | replace h2 := no h2 | replace h2 := nyes h2 | replace h2 := nno h2)
            refine CW.seq ?_
            refine CW.region ?_
            refine OL.q (Y.assign rfl) rfl ?_
            refine OL.nil ?_
            refine EX.seq ?_
            refine CW.ret ?_
            refine EX.retB ?_
            refine EX.retT ?_
            refine EX.retT ?_
            refine EX.retB ?_
            refine EX.retT ?_
            have hd : digB s k = false := by
              have := at0_eq (s := s) (k := k) (by omega)
              unfold digB
              simp; omega
            have hb : numB s = false := by unfold numB; rw [not_all_range (by omega) hd]; simp
            exact EX.fin1 [] rfl rfl rfl ⟨by rw [hb], rfl⟩
          · have ng6_4 := g6_4
            repeat (first | replace ng6_4 := yes ng6_4 | replace ng6_4 := no ng6_4 | replace ng6_4 := nyes ng6_4 | replace ng6_4 := nno ng6_4)
            refine OL.on g6_4 rfl rfl ?_
            refine OL.q (Y.move rfl) rfl ?_
            refine OL.on g6_4 rfl rfl ?_
            refine OL.q (Y.move rfl) rfl ?_
            refine OL.on g6_4 rfl rfl ?_
            refine OL.q (Y.indexStr (k := k) Tryd.underlying9 rfl rfl rfl (by omega)) rfl ?_
            refine OL.on g6_4 rfl rfl ?_
            refine OL.q (Y.gtr rfl rfl) rfl ?_
            refine OL.q (Y.pickF rfl g6_4 rfl) rfl ?_
            refine OL.nil ?_
            refine EX.seq ?_
            refine CW.cond rfl (fun h2 => ?_) (fun h2 => ?_)
            · repeat (first | replace h2 := yes h2 | replace h2 := no h2 | replace h2 := nyes h2 | replace h2 := nno h2)
              refine CW.seq ?_
              refine CW.region ?_
              refine OL.q (Y.assign rfl) rfl ?_
              refine OL.nil ?_
              refine EX.seq ?_
              refine CW.ret ?_
              refine EX.retB ?_
              refine EX.retT ?_
              refine EX.retT ?_
              refine EX.retB ?_
              refine EX.retT ?_
              have hd : digB s k = false := by
                have := at0_eq (s := s) (k := k) (by omega)
                unfold digB
                simp; omega
              have hb : numB s = false := by unfold numB; rw [not_all_range (by omega) hd]; simp
              exact EX.fin1 [] rfl rfl rfl ⟨by rw [hb], rfl⟩
            · repeat (first | replace h2 := yes h2 | replace h2 := no h2 | replace h2 := nyes h2 | replace h2 := nno h2)
              refine CW.skip ?_
              refine EX.norB ?_
              refine EX.seq ?_
              refine CW.region ?_
              refine OL.q (Y.add1 rfl rfl rfl (by omega)) rfl ?_
              refine OL.q (Y.move rfl) rfl ?_
              refine OL.nil ?_
              have hd : digB s k = true := by
                have := at0_eq (s := s) (k := k) (by omega)
                unfold digB
                simp; omega
              exact EX.next (k + 1) [] (show k + 1 ≤ s.size ∧ ∀ j, j < k + 1 → digB s j = true from ⟨by omega, fun j h => by
                by_cases e : j = k
                · rw [e]; exact hd
                · exact hj j (by omega)⟩) (show s.size - (k + 1) < s.size - k by omega) ⟨rfl, rfl, rfl, trivial⟩ rfl rfl
        · repeat (first | replace h1 := yes h1 | replace h1 := no h1 | replace h1 := nyes h1 | replace h1 := nno h1)
          refine CW.exit ?_
          refine EX.exitT ?_
          refine EX.exitT ?_
          refine EX.exitB ?_
          refine EX.seq ?_
          refine CW.seq ?_
          refine CW.region ?_
          refine OL.q (Y.assign rfl) rfl ?_
          refine OL.nil ?_
          refine EX.seq ?_
          refine CW.ret ?_
          have hb : numB s = true := by unfold numB; rw [hpre, all_range.2 (fun j h => hj j (by omega))]; rfl
          exact EX.fin1 [] rfl rfl rfl ⟨by rw [hb], rfl⟩
end Go.Proofs.YtmlnnepgigieaaaDoor
