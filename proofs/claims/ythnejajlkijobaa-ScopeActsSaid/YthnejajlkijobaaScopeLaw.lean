/- The statement ScopeActs: its example, and any acts. -/
import Derived.Test.YthnejajlkijobaaScopeRef
namespace Go.Proofs.Ythnejajlkijobaa
open Go.Sx

theorem S32 : TyN Try.prog 32 3 [.int .i64 0, .int .i64 0, .string ⟨#[]⟩] := ⟨Try.isAgg32, Try.sizeOf32, Try.zeroValue32, rfl⟩
theorem C32 : TyC Try.prog 32 3 [.int .i64 0, .int .i64 0, .string ⟨#[]⟩] := S32.c
theorem L32_0 : Fld Try.prog 32 0 0 := ⟨⟨_, Try.underlying32, _, rfl, rfl, 1, by decide, Try.sizeOf3⟩⟩
theorem L32_1 : Fld Try.prog 32 1 1 := ⟨⟨_, Try.underlying32, _, rfl, rfl, 1, by decide, Try.sizeOf3⟩⟩
theorem L32_2 : Fld Try.prog 32 2 2 := ⟨⟨_, Try.underlying32, _, rfl, rfl, 1, by decide, Try.sizeOf9⟩⟩
theorem B30 : StT Try.prog 30 [(0, 1), (1, 1), (2, 1), (3, 1)] [.slice none 0 0, .slice none 0 0, .slice none 0 0, .int .i64 0] := StT.of (it := Try.t30) (by kernel_rfl) Try.underlying30 rfl rfl (by kernel_rfl)


theorem rd_len {a : Option Addr} {n sz : Nat} {xss : List (List Value)} {h : PH} (hr : rd a n sz xss h) : xss.length = n := hr.1


theorem same_any (a b : Option Addr) (n c m d : Nat) (xs ys : List ByteArray) (hx : xs.length = n) (hy : ys.length = m) (hn : n ≤ 1000000) :
    FS Try.prog 15 [.slice a n c, .slice b m d] (fun h => rd a n 1 (xs.map strCells) h ∧ rd b m 1 (ys.map strCells) h) [] (fun v H => v = .bool (decide (xs = ys)) ∧ H = []) := by
  refine FS.intro (N := 26) Try.func15 rfl rfl rfl (fun F w0 hF => ?_)
  refine CW.seq ?_
  refine CW.region ?_
  refine OL.q (Y.assign rfl) rfl ?_
  refine OL.nil ?_
  refine EX.seq ?_
  refine CW.seq ?_
  refine CW.seq ?_
  refine CW.region ?_
  refine OL.q (Y.move rfl) rfl ?_
  refine OL.q (Y.lenSl Try.underlying23 rfl) rfl ?_
  refine OL.q (Y.move rfl) rfl ?_
  refine OL.q (Y.lenSl Try.underlying23 rfl) rfl ?_
  refine OL.q (Y.neq rfl rfl) rfl ?_
  refine OL.nil ?_
  refine EX.seq ?_
  refine CW.cond rfl (fun h0 => ?_) (fun h0 => ?_)
  · repeat (first | replace h0 := yes h0 | replace h0 := no h0 | replace h0 := nyes h0 | replace h0 := nno h0)
    refine CW.seq ?_
    refine CW.region ?_
    refine OL.q (Y.assign rfl) rfl ?_
    refine OL.nil ?_
    refine EX.seq ?_
    refine CW.ret ?_
    refine EX.retT ?_
    have he : xs ≠ ys := fun e => by subst e; omega
    exact EX.fin1 [] rfl rfl rfl ⟨by simp [he], rfl⟩
  · repeat (first | replace h0 := yes h0 | replace h0 := no h0 | replace h0 := nyes h0 | replace h0 := nno h0)
    have hnm : n = m := by omega
    subst hnm
    refine CW.skip ?_
    refine EX.seq ?_
    refine CW.seq ?_
    refine CW.seq ?_
    refine CW.region ?_
    refine OL.q (Y.move rfl) rfl ?_
    refine OL.q (Y.lenSl Try.underlying23 rfl) rfl ?_
    refine OL.q (Y.move rfl) rfl ?_
    refine OL.nil ?_
    refine EX.seq ?_
    refine CW.block ?_
    refine CW.loop (α := Nat) ⟨fun k => k ≤ n ∧ xs.take k = ys.take k, fun k => [(0, .slice a n c), (1, .slice b n d), (12, .int .i64 n), (13, .int .i64 k)], fun _ => []⟩
      (fun k => n - k) 0 [] ⟨Nat.zero_le _, rfl⟩ ⟨rfl, rfl, rfl, rfl, trivial⟩ rfl rfl ?_
    rintro k ⟨hk, hj⟩
    dsimp only at hk hj ⊢
    refine CW.seq ?_
    refine CW.region ?_
    refine OL.q (Y.lss rfl rfl) rfl ?_
    refine OL.nil ?_
    refine EX.seq ?_
    refine CW.seq ?_
    refine CW.cond rfl (fun h1 => ?_) (fun h1 => ?_)
    · repeat (first | replace h1 := yes h1 | replace h1 := no h1 | replace h1 := nyes h1 | replace h1 := nno h1)
      obtain ⟨s, hp⟩ : ∃ p, xs[k]? = some p := ⟨_, List.getElem?_eq_getElem (by omega)⟩
      obtain ⟨s', hq⟩ : ∃ p, ys[k]? = some p := ⟨_, List.getElem?_eq_getElem (by omega)⟩
      refine CW.skip ?_
      refine EX.seq ?_
      refine CW.seq ?_
      refine CW.block ?_
      refine CW.seq ?_
      refine CW.region ?_
      refine OL.q (Y.move rfl) rfl ?_
      refine OL.q (Y.assign rfl) rfl ?_
      refine OL.nil ?_
      refine EX.seq ?_
      refine CW.seq ?_
      refine CW.drawn [(true, 0), (true, 1), (true, 2), (true, 3), (true, 4), (true, 5), (true, 6), (true, 7), (true, 8)] [] [] mixed (by kernel_rfl) (by repeat (first | exact PanicOk.body | refine PanicOk.then ?_ | refine PanicOk.block ?_)) (by kernel_rfl) rfl rfl rfl rfl ?_
      refine OL.qt (Y.move rfl) rfl ?_
      refine OL.qt (Y.move rfl) rfl ?_
      refine OL.qt (Y.index Try.underlying23 C9 rfl rfl (Ent.frame (Up.rd _ _ _ _) (fun h hs => (hF h hs).1)) rfl (by omega)) rfl ?_
      refine OL.qt (Y.load T9 rfl (cellsIs_at0 (rd_at (Ent.frame (Up.rd _ _ _ _) (fun h hs => (hF h hs).1)) (mget strCells hp)) rfl)) rfl ?_
      refine OL.qt (Y.move rfl) rfl ?_
      refine OL.qt (Y.move rfl) rfl ?_
      refine OL.qt (Y.index Try.underlying23 C9 rfl rfl (Ent.frame (Up.rd _ _ _ _) (fun h hs => (hF h hs).2)) rfl (by omega)) rfl ?_
      refine OL.qt (Y.load T9 rfl (cellsIs_at0 (rd_at (Ent.frame (Up.rd _ _ _ _) (fun h hs => (hF h hs).2)) (mget strCells hq)) rfl)) rfl ?_
      refine OL.qt (Y.neqS rfl rfl) rfl ?_
      refine OL.nil ?_
      refine EX.tail ?_
      refine OL.nil ?_
      refine EX.seq ?_
      refine CW.cond rfl (fun h2 => ?_) (fun h2 => ?_)
      · repeat (first | replace h2 := yes h2 | replace h2 := no h2 | replace h2 := nyes h2 | replace h2 := nno h2)
        refine CW.seq ?_
        refine CW.region ?_
        refine OL.q (Y.assign rfl) rfl ?_
        refine OL.nil ?_
        refine EX.seq ?_
        refine CW.ret ?_
        refine EX.retB ?_
        refine EX.retT ?_
        refine EX.retT ?_
        refine EX.retB ?_
        refine EX.retT ?_
        have he : xs ≠ ys := fun e => by
          subst e
          rw [hp] at hq; cases hq
          exact h2 rfl
        exact EX.fin1 [] rfl rfl rfl ⟨by simp [he], rfl⟩
      · repeat (first | replace h2 := yes h2 | replace h2 := no h2 | replace h2 := nyes h2 | replace h2 := nno h2)
        refine CW.skip ?_
        refine EX.norB ?_
        refine EX.seq ?_
        refine CW.region ?_
        first | refine OL.q (Y.add1 rfl rfl rfl (by omega)) rfl ?_ | refine OL.q (Y.addN rfl rfl (by omega)) rfl ?_ | refine OL.q (Y.add rfl rfl (by omega)) rfl ?_
        refine OL.q (Y.move rfl) rfl ?_
        refine OL.nil ?_
        refine EX.next (k + 1) [] (show k + 1 ≤ n ∧ _ from ⟨by omega, ?_⟩) (show n - (k + 1) < n - k by omega) ⟨rfl, rfl, rfl, rfl, trivial⟩ rfl rfl
        rw [take_snoc hp, take_snoc hq, hj]
        have : s = s' := Classical.not_not.1 h2
        rw [this]
    · repeat (first | replace h1 := yes h1 | replace h1 := no h1 | replace h1 := nyes h1 | replace h1 := nno h1)
      refine CW.exit ?_
      refine EX.exitT ?_
      refine EX.exitT ?_
      refine EX.exitB ?_
      refine EX.seq ?_
      refine CW.seq ?_
      refine CW.region ?_
      refine OL.q (Y.assign rfl) rfl ?_
      refine OL.nil ?_
      refine EX.seq ?_
      refine CW.ret ?_
      have hkn : k = n := by omega
      have he : xs = ys := by
        rw [List.take_of_length_le (by omega), List.take_of_length_le (by omega)] at hj
        exact hj
      exact EX.fin1 [] rfl rfl rfl ⟨by simp [he], rfl⟩


theorem push_one : Scope.push ⟨[], []⟩ 1 = (0, ⟨[], [0]⟩) := by simp [Scope.push]
theorem pop_one (l : List (ByteArray × Int)) : Scope.pop ⟨l, [0]⟩ 1 = (0, ⟨[], []⟩) := by simp [Scope.pop]


theorem speaks_any  :
    FS Try.prog 6 [] (nothing) [] (fun v H => v = .bool true ∧ H = []) := by
  refine FS.intro (N := 47) Try.func6 rfl rfl rfl (fun F w0 hF => ?_)
  refine CW.seq ?_
  refine CW.region ?_
  refine OL.q (Y.assign rfl) rfl ?_
  refine OL.nil ?_
  refine EX.seq ?_
  refine CW.seq ?_
  refine CW.region ?_
  refine OL.call [] (new_any) Try.call7 rfl rfl rfl rfl (Ent.nothing _) rfl ?_
  rintro _ _ ⟨t, rfl, rfl⟩
  refine ⟨rfl, rfl, ?_⟩
  refine OL.q (Y.assign rfl) rfl ?_
  refine OL.nil ?_
  refine EX.seq ?_
  refine CW.seq ?_
  refine CW.region ?_
  refine OL.q (Y.move rfl) rfl ?_
  refine OL.call [0] (push_any t ⟨[], []⟩ 1 (by simp) (by decide) (by decide)) Try.call10 rfl rfl rfl rfl (Ent.nothing _) rfl ?_
  rw [push_one]
  rintro _ _ ⟨rfl, rfl⟩
  refine ⟨rfl, rfl, ?_⟩
  refine OL.q (Y.assign rfl) rfl ?_
  refine OL.nil ?_
  refine EX.seq ?_
  refine CW.seq ?_
  refine CW.region ?_
  refine OL.q (Y.move rfl) rfl ?_
  refine OL.call [0] (bind_new t ⟨[], [0]⟩ ⟨#[120]⟩ 7 rfl (by simp)) Try.call8 rfl rfl rfl rfl (Ent.nothing _) rfl ?_
  rintro _ _ ⟨rfl, rfl⟩
  refine ⟨rfl, rfl, ?_⟩
  refine OL.q (Y.assign rfl) rfl ?_
  refine OL.nil ?_
  refine EX.seq ?_
  refine CW.seq ?_
  refine CW.region ?_
  refine OL.q (Y.move rfl) rfl ?_
  refine OL.call [0] (find_some t ⟨[(⟨#[120]⟩, 7)], [0]⟩ ⟨#[120]⟩ 0 7 rfl rfl) Try.call17 rfl rfl rfl rfl (Ent.nothing _) rfl ?_
  rintro _ _ ⟨rfl, rfl⟩
  refine ⟨rfl, rfl, ?_⟩
  refine OL.q (Y.move rfl) rfl ?_
  refine OL.q (Y.extract rfl rfl) rfl ?_
  refine OL.q (Y.extract rfl rfl) rfl ?_
  refine OL.q (Y.assign rfl) rfl ?_
  refine OL.q (Y.assign rfl) rfl ?_
  refine OL.nil ?_
  refine EX.seq ?_
  refine CW.seq ?_
  refine CW.region ?_
  refine OL.q (Y.move rfl) rfl ?_
  refine OL.call [0] (pop_any t ⟨[(⟨#[120]⟩, 7)], [0]⟩ 1 (by simp) (by simp)) Try.call12 rfl rfl rfl rfl (Ent.nothing _) rfl ?_
  rw [pop_one]
  rintro _ _ ⟨rfl, rfl⟩
  refine ⟨rfl, rfl, ?_⟩
  refine OL.q (Y.assign rfl) rfl ?_
  refine OL.nil ?_
  refine EX.seq ?_
  refine CW.seq ?_
  refine CW.region ?_
  refine OL.q (Y.move rfl) rfl ?_
  refine OL.call [0] (find_none t ⟨[], []⟩ ⟨#[120]⟩ rfl) Try.call17 rfl rfl rfl rfl (Ent.nothing _) rfl ?_
  rintro _ _ ⟨rfl, rfl⟩
  refine ⟨rfl, rfl, ?_⟩
  refine OL.q (Y.move rfl) rfl ?_
  refine OL.q (Y.extract rfl rfl) rfl ?_
  refine OL.q (Y.extract rfl rfl) rfl ?_
  refine OL.q (Y.assign rfl) rfl ?_
  refine OL.q (Y.assign rfl) rfl ?_
  refine OL.nil ?_
  refine EX.seq ?_
  refine CW.seq ?_
  refine CW.region ?_
  refine OL.q (Y.move rfl) rfl ?_
  refine OL.q (Y.eql rfl rfl) rfl ?_
  refine OL.q (Y.move rfl) rfl ?_
  refine OL.guard (s := 28) rfl (fun g7_2 => ?_) (fun g7_2 => ?_)
  · have ng7_2 := g7_2
    repeat (first | replace ng7_2 := yes ng7_2 | replace ng7_2 := no ng7_2 | replace ng7_2 := nyes ng7_2 | replace ng7_2 := nno ng7_2)
    refine OL.on g7_2 rfl rfl ?_
    refine OL.q (Y.move rfl) rfl ?_
    refine OL.on g7_2 rfl rfl ?_
    refine OL.q (Y.eql rfl rfl) rfl ?_
    refine OL.q (Y.pickT rfl g7_2 rfl) rfl ?_
    refine OL.q (Y.move rfl) rfl ?_
    refine OL.guard (s := 32) rfl (fun g7_6 => ?_) (fun g7_6 => ?_)
    · have ng7_6 := g7_6
      repeat (first | replace ng7_6 := yes ng7_6 | replace ng7_6 := no ng7_6 | replace ng7_6 := nyes ng7_6 | replace ng7_6 := nno ng7_6)
      refine OL.on g7_6 rfl rfl ?_
      refine OL.q (Y.move rfl) rfl ?_
      refine OL.on g7_6 rfl rfl ?_
      refine OL.q (Y.eql rfl rfl) rfl ?_
      refine OL.q (Y.pickT rfl g7_6 rfl) rfl ?_
      refine OL.q (Y.move rfl) rfl ?_
      refine OL.guard (s := 36) rfl (fun g7_10 => ?_) (fun g7_10 => ?_)
      · have ng7_10 := g7_10
        repeat (first | replace ng7_10 := yes ng7_10 | replace ng7_10 := no ng7_10 | replace ng7_10 := nyes ng7_10 | replace ng7_10 := nno ng7_10)
        refine OL.on g7_10 rfl rfl ?_
        refine OL.q (Y.move rfl) rfl ?_
        refine OL.q (Y.pickT rfl g7_10 rfl) rfl ?_
        refine OL.q (Y.move rfl) rfl ?_
        refine OL.guard (s := 39) rfl (fun g7_13 => ?_) (fun g7_13 => ?_)
        · have ng7_13 := g7_13
          repeat (first | replace ng7_13 := yes ng7_13 | replace ng7_13 := no ng7_13 | replace ng7_13 := nyes ng7_13 | replace ng7_13 := nno ng7_13)
          refine OL.on g7_13 rfl rfl ?_
          refine OL.q (Y.move rfl) rfl ?_
          refine OL.on g7_13 rfl rfl ?_
          refine OL.q (Y.eql rfl rfl) rfl ?_
          refine OL.q (Y.pickT rfl g7_13 rfl) rfl ?_
          refine OL.q (Y.move rfl) rfl ?_
          refine OL.guard (s := 43) rfl (fun g7_17 => ?_) (fun g7_17 => ?_)
          · have ng7_17 := g7_17
            repeat (first | replace ng7_17 := yes ng7_17 | replace ng7_17 := no ng7_17 | replace ng7_17 := nyes ng7_17 | replace ng7_17 := nno ng7_17)
            refine OL.on g7_17 rfl rfl ?_
            refine OL.q (Y.move rfl) rfl ?_
            refine OL.on g7_17 rfl rfl ?_
            refine OL.q (Y.not rfl) rfl ?_
            refine OL.q (Y.pickT rfl g7_17 rfl) rfl ?_
            refine OL.q (Y.assign rfl) rfl ?_
            refine OL.nil ?_
            refine EX.seq ?_
            refine CW.ret ?_
            exact EX.fin1 [] rfl rfl rfl ⟨rfl, rfl⟩
          · have ng7_17 := g7_17
            repeat (first | replace ng7_17 := yes ng7_17 | replace ng7_17 := no ng7_17 | replace ng7_17 := nyes ng7_17 | replace ng7_17 := nno ng7_17)
            exfalso
            first | omega | contradiction | exact absurd rfl ng7_17 | exact absurd ng7_17 (by simp) | exact absurd ng7_17 (by decide)
        · have ng7_13 := g7_13
          repeat (first | replace ng7_13 := yes ng7_13 | replace ng7_13 := no ng7_13 | replace ng7_13 := nyes ng7_13 | replace ng7_13 := nno ng7_13)
          exfalso
          first | omega | contradiction | exact absurd rfl ng7_13 | exact absurd ng7_13 (by simp) | exact absurd ng7_13 (by decide)
      · have ng7_10 := g7_10
        repeat (first | replace ng7_10 := yes ng7_10 | replace ng7_10 := no ng7_10 | replace ng7_10 := nyes ng7_10 | replace ng7_10 := nno ng7_10)
        exfalso
        first | omega | contradiction | exact absurd rfl ng7_10 | exact absurd ng7_10 (by simp) | exact absurd ng7_10 (by decide)
    · have ng7_6 := g7_6
      repeat (first | replace ng7_6 := yes ng7_6 | replace ng7_6 := no ng7_6 | replace ng7_6 := nyes ng7_6 | replace ng7_6 := nno ng7_6)
      exfalso
      first | omega | contradiction | exact absurd rfl ng7_6 | exact absurd ng7_6 (by simp) | exact absurd ng7_6 (by decide)
  · have ng7_2 := g7_2
    repeat (first | replace ng7_2 := yes ng7_2 | replace ng7_2 := no ng7_2 | replace ng7_2 := nyes ng7_2 | replace ng7_2 := nno ng7_2)
    exfalso
    first | omega | contradiction | exact absurd rfl ng7_2 | exact absurd ng7_2 (by simp) | exact absurd ng7_2 (by decide)


/-- An act as it lies in memory. -/
structure ActV where
  what : Int
  n : Int
  name : ByteArray
def actCells (a : ActV) : List Value := [.int .i64 a.what, .int .i64 a.n, .string a.name]
def ActV.Ok (a : ActV) : Prop := -9223372036854775808 ≤ a.n ∧ a.n ≤ 9223372036854775807
/-- What an act comes to. -/
def Scope.act (S : Scope) (a : ActV) : Int × Scope := if a.what = 0 then S.bind a.name a.n else if a.what = 1 then S.push a.n else S.pop a.n
theorem push_bd {S : Scope} (n : Int) (h : S.levels.length ≤ 1000) : (S.push n).2.levels.length ≤ 1000 ∧ (S.push n).2.ents.length ≤ S.ents.length := by
  unfold Scope.push
  split
  · exact ⟨h, Nat.le_refl _⟩
  · split
    · exact ⟨h, Nat.le_refl _⟩
    · simp; omega
theorem pop_bd {S : Scope} (n : Int) (h : S.levels.length ≤ 1000) : (S.pop n).2.levels.length ≤ 1000 ∧ (S.pop n).2.ents.length ≤ S.ents.length := by
  unfold Scope.pop
  split
  · exact ⟨h, Nat.le_refl _⟩
  · split
    · exact ⟨h, Nat.le_refl _⟩
    · split
      · exact ⟨h, Nat.le_refl _⟩
      · simp; omega
theorem bind_bd {S : Scope} (s : ByteArray) (x : Int) (h : S.levels.length ≤ 1000) : (S.bind s x).2.levels.length ≤ 1000 ∧ (S.bind s x).2.ents.length ≤ S.ents.length + 1 := by
  unfold Scope.bind
  split
  · exact ⟨h, Nat.le_succ _⟩
  · simp; exact h
theorem bind_any (t : Nat) (S : Scope) (s : ByteArray) (x : Int) (hl : S.ents.length ≤ 1000000) :
    FS Try.prog 8 [.pointer (some ⟨t, 0, none⟩), .string s, .int .i64 x] nothing [scopeAt t S] (fun v H => v = .int .i64 (S.bind s x).1 ∧ H = [scopeAt t (S.bind s x).2]) := by
  cases hp : posOf s S.ents with
  | some k =>
    have e : S.bind s x = (13, S) := by simp [Scope.bind, hp]
    rw [e]; exact bind_twice t S s x k hp
  | none =>
    have e : S.bind s x = (0, ⟨S.ents ++ [(s, x)], S.levels⟩) := by simp [Scope.bind, hp]
    rw [e]; exact bind_new t S s x hp hl
theorem ref_empty {r : Nat} {F : List HP} {H : List HP} : ∀ h, sl ((blk r [.slice none 0 0, .slice none 0 0, .slice none 0 0, .int .i64 0] 30 :: H) ++ F) h → sl (([refAt r ⟨[], []⟩] ++ H) ++ F) h := by
  intro h hs
  have h2 := sl_row_nil 9 1 (sl_row_nil 3 1 (sl_row_nil 3 1 hs))
  have h3 := sl.picked (l := [_, _, _, _]) (F := H ++ F) (is := [3, 0, 1, 2]) rfl h2
  exact ref_shut (S := ⟨[], []⟩) ⟨none, 0, 0, none, 0, 0, none, 0, 0⟩ ⟨List.nodup_nil, List.Pairwise.nil, fun _ hx => nomatch hx⟩ h h3
theorem rfind_some (r : Nat) (S : Scope) (s : ByteArray) (hE : S.ents.length ≤ 1000000) (k : Nat) (hk : posOf s S.ents = some k) :
    FS Try.prog 18 [.pointer (some ⟨r, 0, none⟩), .string s] nothing [refAt r S] (fun v H => v = .int .i64 k ∧ H = [refAt r S]) := by
  have := rfind_any r S s hE
  simp only [place1, hk] at this
  exact this
theorem rfind_none (r : Nat) (S : Scope) (s : ByteArray) (hE : S.ents.length ≤ 1000000) (hk : posOf s S.ents = none) :
    FS Try.prog 18 [.pointer (some ⟨r, 0, none⟩), .string s] nothing [refAt r S] (fun v H => v = .int .i64 (-1) ∧ H = [refAt r S]) := by
  have := rfind_any r S s hE
  simp only [place1, hk] at this
  exact this
theorem ref_mid {t r : Nat} {S : Scope} {H F : List HP} : ∀ h, sl ((scopeAt t S :: refAt r S :: H) ++ F) h → ∃ v : RefV, (S.Ok ∧ (v.nn = S.ents.length ∧ v.tn = S.ents.length ∧ v.an = S.ents.length) ∧ v.nn ≤ v.nc ∧ v.tn ≤ v.tc ∧ v.an ≤ v.ac) ∧ sl ((scopeAt t S :: (refL r S v ++ H)) ++ F) h := by
  intro h hs
  obtain ⟨v, hv, h2⟩ := ref_open (F := scopeAt t S :: (H ++ F)) h (hs.perm (List.Perm.swap _ _ _))
  refine ⟨v, hv, h2.perm ?_⟩
  simp only [refL, List.cons_append, List.nil_append]
  exact (List.perm_middle (l₁ := [_, _, _, _])).trans (List.Perm.refl _)
theorem ref_back {t r : Nat} {S : Scope} {H F : List HP} (v : RefV) (hn : S.Ok) : ∀ h, sl ((scopeAt t S :: (refL r S v ++ H)) ++ F) h → sl ((scopeAt t S :: refAt r S :: H) ++ F) h := by
  intro h hs
  have h1 : sl (refL r S v ++ (scopeAt t S :: (H ++ F))) h := hs.perm (by
    simp only [refL, List.cons_append, List.nil_append]
    exact (List.perm_middle (l₁ := [_, _, _, _])).symm)
  exact (ref_shut v hn h h1).perm (List.Perm.swap _ _ _)


set_option maxRecDepth 10000 in
theorem acts_any (la qa : Option Addr) (ln lc qn qc : Nat) (acts : List ActV) (ask : List ByteArray) (hl : acts.length = ln) (hq : ask.length = qn) (hok : ∀ a ∈ acts, a.Ok) :
    FS Try.prog 3 [.slice la ln lc, .slice qa qn qc] (fun h => rd la ln 3 (acts.map actCells) h ∧ rd qa qn 1 (ask.map strCells) h) [] (fun v H => v = .bool true ∧ H = []) := by
  refine FS.intro (N := 141) Try.func3 rfl rfl rfl (fun F w0 hF => ?_)
  refine CW.seq ?_
  refine CW.region ?_
  refine OL.q (Y.assign rfl) rfl ?_
  refine OL.nil ?_
  refine EX.seq ?_
  refine CW.seq ?_
  refine CW.seq ?_
  refine CW.region ?_
  refine OL.call [] (speaks_any) Try.call6 rfl rfl rfl rfl (Ent.nothing _) rfl ?_
  rintro _ _ ⟨rfl, rfl⟩
  refine ⟨rfl, rfl, ?_⟩
  refine OL.q (Y.not rfl) rfl ?_
  refine OL.nil ?_
  refine EX.seq ?_
  refine CW.cond rfl (fun h0 => ?_) (fun h0 => ?_)
  · repeat (first | replace h0 := yes h0 | replace h0 := no h0 | replace h0 := nyes h0 | replace h0 := nno h0)
    exfalso
    contradiction
  repeat (first | replace h0 := yes h0 | replace h0 := no h0 | replace h0 := nyes h0 | replace h0 := nno h0)
  refine CW.skip ?_
  refine EX.seq ?_
  refine CW.seq ?_
  refine CW.seq ?_
  refine CW.region ?_
  refine OL.q (Y.move rfl) rfl ?_
  refine OL.q (Y.lenSl Try.underlying22 rfl) rfl ?_
  refine OL.q (Y.gtr rfl rfl) rfl ?_
  refine OL.q (Y.move rfl) rfl ?_
  refine OL.guard (s := 21) rfl (fun g3_3 => ?_) (fun g3_3 => ?_)
  · have ng3_3 := g3_3
    repeat (first | replace ng3_3 := yes ng3_3 | replace ng3_3 := no ng3_3 | replace ng3_3 := nyes ng3_3 | replace ng3_3 := nno ng3_3)
    refine OL.no g3_3 rfl rfl rfl ?_
    refine OL.no g3_3 rfl rfl rfl ?_
    refine OL.no g3_3 rfl rfl rfl ?_
    refine OL.q (Y.pickT rfl g3_3 rfl) rfl ?_
    refine OL.nil ?_
    refine EX.seq ?_
    refine CW.cond rfl (fun h1 => ?_) (fun h1 => ?_)
    rotate_left
    · repeat (first | replace h1 := yes h1 | replace h1 := no h1 | replace h1 := nyes h1 | replace h1 := nno h1)
      exfalso
      first | omega | contradiction | exact absurd rfl h1 | exact absurd h1 (by simp) | exact absurd h1 (by decide)
    repeat (first | replace h1 := yes h1 | replace h1 := no h1 | replace h1 := nyes h1 | replace h1 := nno h1)
    refine CW.seq ?_
    refine CW.region ?_
    refine OL.q (Y.assign rfl) rfl ?_
    refine OL.nil ?_
    refine EX.seq ?_
    refine CW.ret ?_
    refine EX.retT ?_
    exact EX.fin1 [] rfl rfl rfl ⟨rfl, rfl⟩
  · have ng3_3 := g3_3
    repeat (first | replace ng3_3 := yes ng3_3 | replace ng3_3 := no ng3_3 | replace ng3_3 := nyes ng3_3 | replace ng3_3 := nno ng3_3)
    refine OL.on g3_3 rfl rfl ?_
    refine OL.q (Y.move rfl) rfl ?_
    refine OL.on g3_3 rfl rfl ?_
    refine OL.q (Y.lenSl Try.underlying23 rfl) rfl ?_
    refine OL.on g3_3 rfl rfl ?_
    refine OL.q (Y.gtr rfl rfl) rfl ?_
    refine OL.q (Y.pickF rfl g3_3 rfl) rfl ?_
    refine OL.nil ?_
    refine EX.seq ?_
    refine CW.cond rfl (fun h1 => ?_) (fun h1 => ?_)
    · repeat (first | replace h1 := yes h1 | replace h1 := no h1 | replace h1 := nyes h1 | replace h1 := nno h1)
      refine CW.seq ?_
      refine CW.region ?_
      refine OL.q (Y.assign rfl) rfl ?_
      refine OL.nil ?_
      refine EX.seq ?_
      refine CW.ret ?_
      refine EX.retT ?_
      exact EX.fin1 [] rfl rfl rfl ⟨rfl, rfl⟩
    · repeat (first | replace h1 := yes h1 | replace h1 := no h1 | replace h1 := nyes h1 | replace h1 := nno h1)
      refine CW.skip ?_
      refine EX.seq ?_
      refine CW.seq ?_
      refine CW.region ?_
      refine OL.call [] (new_any) Try.call7 rfl rfl rfl rfl (Ent.nothing _) rfl ?_
      rintro _ _ ⟨t, rfl, rfl⟩
      refine ⟨rfl, rfl, ?_⟩
      refine OL.q (Y.build B30 rfl rfl) rfl ?_
      refine OL.box rfl rfl rfl (fun b28 => ⟨rfl, rfl, ?_⟩)
      refine OL.q (Y.assign rfl) rfl ?_
      refine OL.q (Y.assign rfl) rfl ?_
      refine OL.nil ?_
      refine EX.seq ?_
      refine CW.seq ?_
      refine CW.seq ?_
      refine CW.region ?_
      refine OL.q (Y.move rfl) rfl ?_
      refine OL.q (Y.lenSl Try.underlying22 rfl) rfl ?_
      refine OL.q (Y.move rfl) rfl ?_
      refine OL.nil ?_
      refine EX.seq ?_
      refine CW.block ?_
      refine CW.read (fun _ : Unit => True) (fun _ => [scopeAt t ⟨[], []⟩, refAt b28 ⟨[], []⟩]) (fun h hs => ⟨(), trivial, (ref_empty h (H := [scopeAt t ⟨[], []⟩]) (hs.perm (List.Perm.swap _ _ _))).perm (List.Perm.swap _ _ _)⟩) (fun _ _ => ?_)
      refine CW.loop (α := Nat × Scope) ⟨fun x => x.1 ≤ ln ∧ x.2.ents.length ≤ x.1 ∧ x.2.levels.length ≤ 1000, fun x => [(1, .slice qa qn qc), (5, .pointer (some ⟨t, 0, none⟩)), (6, .pointer (some ⟨b28, 0, none⟩)), (29, .slice la ln lc), (30, .int .i64 ln), (31, .int .i64 x.1)], fun x => [scopeAt t x.2, refAt b28 x.2]⟩
        (fun x => ln - x.1) (0, ⟨[], []⟩) [0, 1] ⟨Nat.zero_le _, Nat.le_refl _, Nat.zero_le _⟩ ⟨rfl, rfl, rfl, rfl, rfl, rfl, trivial⟩ rfl rfl ?_
      rintro ⟨i, S⟩ ⟨hi, he, hL⟩
      dsimp only at hi he hL ⊢
      generalize hb : b28 = r
      refine CW.seq ?_
      refine CW.region ?_
      refine OL.q (Y.lss rfl rfl) rfl ?_
      refine OL.nil ?_
      refine EX.seq ?_
      refine CW.seq ?_
      refine CW.cond rfl (fun h2 => ?_) (fun h2 => ?_)
      · repeat (first | replace h2 := yes h2 | replace h2 := no h2 | replace h2 := nyes h2 | replace h2 := nno h2)
        obtain ⟨⟨wt, n, s⟩, hp⟩ : ∃ p, acts[i]? = some p := ⟨_, List.getElem?_eq_getElem (by omega)⟩
        have hak : (⟨wt, n, s⟩ : ActV).Ok := hok _ (by obtain ⟨h, e⟩ := List.getElem?_eq_some_iff.1 hp; exact e ▸ List.getElem_mem h)
        refine CW.skip ?_
        refine EX.seq ?_
        refine CW.seq ?_
        refine CW.block ?_
        refine CW.seq ?_
        refine CW.region ?_
        refine OL.q (Y.index Try.underlying22 C32 rfl rfl (Ent.frame (Up.rd _ _ _ _) (fun h hs => (hF h hs).1)) rfl (by omega)) rfl ?_
        refine OL.q (Y.loadN S32 rfl rfl (rd_at (Ent.frame (Up.rd _ _ _ _) (fun h hs => (hF h hs).1)) (mget actCells hp))) rfl ?_
        refine OL.alloc C32 rfl (fun b8 => ⟨rfl, rfl, ?_⟩)
        first | refine OL.storeAll 0 rfl C32 rfl rfl rfl rfl rfl rfl ⟨rfl, rfl, ?_⟩ | refine OL.storeAll 1 rfl C32 rfl rfl rfl rfl rfl rfl ⟨rfl, rfl, ?_⟩ | refine OL.storeAll 2 rfl C32 rfl rfl rfl rfl rfl rfl ⟨rfl, rfl, ?_⟩ | refine OL.storeAll 3 rfl C32 rfl rfl rfl rfl rfl rfl ⟨rfl, rfl, ?_⟩ | refine OL.storeAll 4 rfl C32 rfl rfl rfl rfl rfl rfl ⟨rfl, rfl, ?_⟩ | refine OL.storeAll 5 rfl C32 rfl rfl rfl rfl rfl rfl ⟨rfl, rfl, ?_⟩
        refine OL.nil ?_
        refine EX.seq ?_
        refine CW.seq ?_
        refine CW.region ?_
        refine OL.q (Y.assign rfl) rfl ?_
        refine OL.q (Y.assign rfl) rfl ?_
        refine OL.nil ?_
        refine EX.seq ?_
        refine CW.cut (α := Scope × Int) ⟨fun x => x.1.ents.length ≤ i + 1 ∧ x.1.levels.length ≤ 1000, fun x => [(1, .slice qa qn qc), (5, .pointer (some ⟨t, 0, none⟩)), (6, .pointer (some ⟨r, 0, none⟩)), (29, .slice la ln lc), (30, .int .i64 ln), (31, .int .i64 i), (9, .int .i64 x.2), (10, .int .i64 x.2)], fun x => [scopeAt t x.1, refAt r x.1]⟩ ?_ ?_
        ·
          refine CW.seq ?_
          refine CW.region ?_
          refine OL.q (Y.field L32_0 rfl) rfl ?_
          first | refine OL.q (Y.load T3 rfl (Ent.at 0 rfl (Up.cellIs _ _ _) (blk_cell rfl))) rfl ?_ | refine OL.q (Y.load T3 rfl (Ent.at 1 rfl (Up.cellIs _ _ _) (blk_cell rfl))) rfl ?_ | refine OL.q (Y.load T3 rfl (Ent.at 2 rfl (Up.cellIs _ _ _) (blk_cell rfl))) rfl ?_ | refine OL.q (Y.load T3 rfl (Ent.at 3 rfl (Up.cellIs _ _ _) (blk_cell rfl))) rfl ?_ | refine OL.q (Y.load T3 rfl (Ent.at 4 rfl (Up.cellIs _ _ _) (blk_cell rfl))) rfl ?_ | refine OL.q (Y.load T3 rfl (Ent.at 5 rfl (Up.cellIs _ _ _) (blk_cell rfl))) rfl ?_
          refine OL.nil ?_
          refine EX.seq ?_
          refine CW.block ?_
          refine CW.seq ?_
          refine CW.region ?_
          refine OL.q (Y.eql rfl rfl) rfl ?_
          refine OL.q (Y.assign rfl) rfl ?_
          refine OL.nil ?_
          refine EX.seq ?_
          refine CW.cond rfl (fun h3 => ?_) (fun h3 => ?_)
          · repeat (first | replace h3 := yes h3 | replace h3 := no h3 | replace h3 := nyes h3 | replace h3 := nno h3)
            refine CW.drawn [(true, 0), (true, 1), (true, 2), (true, 3), (true, 4), (true, 6), (true, 7), (true, 8), (true, 9), (true, 10), (false, 5), (false, 11), (true, 12)] [13] [2] mixed (by kernel_rfl) (by repeat (first | exact PanicOk.body | refine PanicOk.then ?_ | refine PanicOk.block ?_)) (by kernel_rfl) rfl rfl rfl rfl ?_
            refine OL.qt (Y.move rfl) rfl ?_
            refine OL.qt (Y.field L32_2 rfl) rfl ?_
            first | refine OL.qt (Y.load T9 rfl (Ent.at 0 rfl (Up.cellIs _ _ _) (blk_cell rfl))) rfl ?_ | refine OL.qt (Y.load T9 rfl (Ent.at 1 rfl (Up.cellIs _ _ _) (blk_cell rfl))) rfl ?_ | refine OL.qt (Y.load T9 rfl (Ent.at 2 rfl (Up.cellIs _ _ _) (blk_cell rfl))) rfl ?_ | refine OL.qt (Y.load T9 rfl (Ent.at 3 rfl (Up.cellIs _ _ _) (blk_cell rfl))) rfl ?_ | refine OL.qt (Y.load T9 rfl (Ent.at 4 rfl (Up.cellIs _ _ _) (blk_cell rfl))) rfl ?_ | refine OL.qt (Y.load T9 rfl (Ent.at 5 rfl (Up.cellIs _ _ _) (blk_cell rfl))) rfl ?_
            refine OL.qt (Y.field L32_1 rfl) rfl ?_
            first | refine OL.qt (Y.load T3 rfl (Ent.at 0 rfl (Up.cellIs _ _ _) (blk_cell rfl))) rfl ?_ | refine OL.qt (Y.load T3 rfl (Ent.at 1 rfl (Up.cellIs _ _ _) (blk_cell rfl))) rfl ?_ | refine OL.qt (Y.load T3 rfl (Ent.at 2 rfl (Up.cellIs _ _ _) (blk_cell rfl))) rfl ?_ | refine OL.qt (Y.load T3 rfl (Ent.at 3 rfl (Up.cellIs _ _ _) (blk_cell rfl))) rfl ?_ | refine OL.qt (Y.load T3 rfl (Ent.at 4 rfl (Up.cellIs _ _ _) (blk_cell rfl))) rfl ?_ | refine OL.qt (Y.load T3 rfl (Ent.at 5 rfl (Up.cellIs _ _ _) (blk_cell rfl))) rfl ?_
            refine OL.qt (Y.move rfl) rfl ?_
            refine OL.qt (Y.field L32_2 rfl) rfl ?_
            first | refine OL.qt (Y.load T9 rfl (Ent.at 0 rfl (Up.cellIs _ _ _) (blk_cell rfl))) rfl ?_ | refine OL.qt (Y.load T9 rfl (Ent.at 1 rfl (Up.cellIs _ _ _) (blk_cell rfl))) rfl ?_ | refine OL.qt (Y.load T9 rfl (Ent.at 2 rfl (Up.cellIs _ _ _) (blk_cell rfl))) rfl ?_ | refine OL.qt (Y.load T9 rfl (Ent.at 3 rfl (Up.cellIs _ _ _) (blk_cell rfl))) rfl ?_ | refine OL.qt (Y.load T9 rfl (Ent.at 4 rfl (Up.cellIs _ _ _) (blk_cell rfl))) rfl ?_ | refine OL.qt (Y.load T9 rfl (Ent.at 5 rfl (Up.cellIs _ _ _) (blk_cell rfl))) rfl ?_
            refine OL.qt (Y.field L32_1 rfl) rfl ?_
            first | refine OL.qt (Y.load T3 rfl (Ent.at 0 rfl (Up.cellIs _ _ _) (blk_cell rfl))) rfl ?_ | refine OL.qt (Y.load T3 rfl (Ent.at 1 rfl (Up.cellIs _ _ _) (blk_cell rfl))) rfl ?_ | refine OL.qt (Y.load T3 rfl (Ent.at 2 rfl (Up.cellIs _ _ _) (blk_cell rfl))) rfl ?_ | refine OL.qt (Y.load T3 rfl (Ent.at 3 rfl (Up.cellIs _ _ _) (blk_cell rfl))) rfl ?_ | refine OL.qt (Y.load T3 rfl (Ent.at 4 rfl (Up.cellIs _ _ _) (blk_cell rfl))) rfl ?_ | refine OL.qt (Y.load T3 rfl (Ent.at 5 rfl (Up.cellIs _ _ _) (blk_cell rfl))) rfl ?_
            refine OL.call [0] (bind_any t S s n (by omega)) Try.call8 rfl rfl rfl rfl (Ent.nothing _) rfl ?_
            rintro _ _ ⟨rfl, rfl⟩
            refine ⟨rfl, rfl, ?_⟩
            refine OL.call [1] (rbind_any r S s n (by omega)) Try.call9 rfl rfl rfl rfl (Ent.nothing _) rfl ?_
            rintro _ _ ⟨rfl, rfl⟩
            refine ⟨rfl, rfl, ?_⟩
            refine OL.qt (Y.assign rfl) rfl ?_
            refine OL.nil ?_
            refine EX.tail ?_
            refine OL.q (Y.assign rfl) rfl ?_
            refine OL.nil ?_
            refine EX.norB ?_
            have hbd := bind_bd s n hL
            exact EX.meet ((S.bind s n).2, (S.bind s n).1) [0, 1] ⟨show (S.bind s n).2.ents.length ≤ i + 1 by omega, hbd.1⟩ ⟨rfl, rfl, rfl, rfl, rfl, rfl, rfl, rfl, trivial⟩ rfl rfl
          · repeat (first | replace h3 := yes h3 | replace h3 := no h3 | replace h3 := nyes h3 | replace h3 := nno h3)
            refine CW.seq ?_
            refine CW.region ?_
            refine OL.q (Y.eql rfl rfl) rfl ?_
            refine OL.q (Y.assign rfl) rfl ?_
            refine OL.nil ?_
            refine EX.seq ?_
            refine CW.cond rfl (fun h4 => ?_) (fun h4 => ?_)
            · repeat (first | replace h4 := yes h4 | replace h4 := no h4 | replace h4 := nyes h4 | replace h4 := nno h4)
              refine CW.drawn [(true, 0), (true, 1), (true, 2), (true, 4), (true, 5), (true, 6), (false, 3), (false, 7), (true, 8)] [9] [2] mixed (by kernel_rfl) (by repeat (first | exact PanicOk.body | refine PanicOk.then ?_ | refine PanicOk.block ?_)) (by kernel_rfl) rfl rfl rfl rfl ?_
              refine OL.qt (Y.move rfl) rfl ?_
              refine OL.qt (Y.field L32_1 rfl) rfl ?_
              first | refine OL.qt (Y.load T3 rfl (Ent.at 0 rfl (Up.cellIs _ _ _) (blk_cell rfl))) rfl ?_ | refine OL.qt (Y.load T3 rfl (Ent.at 1 rfl (Up.cellIs _ _ _) (blk_cell rfl))) rfl ?_ | refine OL.qt (Y.load T3 rfl (Ent.at 2 rfl (Up.cellIs _ _ _) (blk_cell rfl))) rfl ?_ | refine OL.qt (Y.load T3 rfl (Ent.at 3 rfl (Up.cellIs _ _ _) (blk_cell rfl))) rfl ?_ | refine OL.qt (Y.load T3 rfl (Ent.at 4 rfl (Up.cellIs _ _ _) (blk_cell rfl))) rfl ?_ | refine OL.qt (Y.load T3 rfl (Ent.at 5 rfl (Up.cellIs _ _ _) (blk_cell rfl))) rfl ?_
              refine OL.qt (Y.move rfl) rfl ?_
              refine OL.qt (Y.field L32_1 rfl) rfl ?_
              first | refine OL.qt (Y.load T3 rfl (Ent.at 0 rfl (Up.cellIs _ _ _) (blk_cell rfl))) rfl ?_ | refine OL.qt (Y.load T3 rfl (Ent.at 1 rfl (Up.cellIs _ _ _) (blk_cell rfl))) rfl ?_ | refine OL.qt (Y.load T3 rfl (Ent.at 2 rfl (Up.cellIs _ _ _) (blk_cell rfl))) rfl ?_ | refine OL.qt (Y.load T3 rfl (Ent.at 3 rfl (Up.cellIs _ _ _) (blk_cell rfl))) rfl ?_ | refine OL.qt (Y.load T3 rfl (Ent.at 4 rfl (Up.cellIs _ _ _) (blk_cell rfl))) rfl ?_ | refine OL.qt (Y.load T3 rfl (Ent.at 5 rfl (Up.cellIs _ _ _) (blk_cell rfl))) rfl ?_
              refine OL.call [0] (push_any t S n hL hak.1 hak.2) Try.call10 rfl rfl rfl rfl (Ent.nothing _) rfl ?_
              rintro _ _ ⟨rfl, rfl⟩
              refine ⟨rfl, rfl, ?_⟩
              refine OL.call [1] (rpush_any r S n hL) Try.call11 rfl rfl rfl rfl (Ent.nothing _) rfl ?_
              rintro _ _ ⟨rfl, rfl⟩
              refine ⟨rfl, rfl, ?_⟩
              refine OL.qt (Y.assign rfl) rfl ?_
              refine OL.nil ?_
              refine EX.tail ?_
              refine OL.q (Y.assign rfl) rfl ?_
              refine OL.nil ?_
              refine EX.norB ?_
              have hbd := push_bd n hL
              exact EX.meet ((S.push n).2, (S.push n).1) [0, 1] ⟨show (S.push n).2.ents.length ≤ i + 1 by omega, hbd.1⟩ ⟨rfl, rfl, rfl, rfl, rfl, rfl, rfl, rfl, trivial⟩ rfl rfl
            · repeat (first | replace h4 := yes h4 | replace h4 := no h4 | replace h4 := nyes h4 | replace h4 := nno h4)
              refine CW.drawn [(true, 0), (true, 1), (true, 2), (true, 4), (true, 5), (true, 6), (false, 3), (false, 7), (true, 8)] [9] [2] mixed (by kernel_rfl) (by repeat (first | exact PanicOk.body | refine PanicOk.then ?_ | refine PanicOk.block ?_)) (by kernel_rfl) rfl rfl rfl rfl ?_
              refine OL.qt (Y.move rfl) rfl ?_
              refine OL.qt (Y.field L32_1 rfl) rfl ?_
              first | refine OL.qt (Y.load T3 rfl (Ent.at 0 rfl (Up.cellIs _ _ _) (blk_cell rfl))) rfl ?_ | refine OL.qt (Y.load T3 rfl (Ent.at 1 rfl (Up.cellIs _ _ _) (blk_cell rfl))) rfl ?_ | refine OL.qt (Y.load T3 rfl (Ent.at 2 rfl (Up.cellIs _ _ _) (blk_cell rfl))) rfl ?_ | refine OL.qt (Y.load T3 rfl (Ent.at 3 rfl (Up.cellIs _ _ _) (blk_cell rfl))) rfl ?_ | refine OL.qt (Y.load T3 rfl (Ent.at 4 rfl (Up.cellIs _ _ _) (blk_cell rfl))) rfl ?_ | refine OL.qt (Y.load T3 rfl (Ent.at 5 rfl (Up.cellIs _ _ _) (blk_cell rfl))) rfl ?_
              refine OL.qt (Y.move rfl) rfl ?_
              refine OL.qt (Y.field L32_1 rfl) rfl ?_
              first | refine OL.qt (Y.load T3 rfl (Ent.at 0 rfl (Up.cellIs _ _ _) (blk_cell rfl))) rfl ?_ | refine OL.qt (Y.load T3 rfl (Ent.at 1 rfl (Up.cellIs _ _ _) (blk_cell rfl))) rfl ?_ | refine OL.qt (Y.load T3 rfl (Ent.at 2 rfl (Up.cellIs _ _ _) (blk_cell rfl))) rfl ?_ | refine OL.qt (Y.load T3 rfl (Ent.at 3 rfl (Up.cellIs _ _ _) (blk_cell rfl))) rfl ?_ | refine OL.qt (Y.load T3 rfl (Ent.at 4 rfl (Up.cellIs _ _ _) (blk_cell rfl))) rfl ?_ | refine OL.qt (Y.load T3 rfl (Ent.at 5 rfl (Up.cellIs _ _ _) (blk_cell rfl))) rfl ?_
              refine OL.call [0] (pop_any t S n hL (by omega)) Try.call12 rfl rfl rfl rfl (Ent.nothing _) rfl ?_
              rintro _ _ ⟨rfl, rfl⟩
              refine ⟨rfl, rfl, ?_⟩
              refine OL.call [1] (rpop_any r S n hL (by omega)) Try.call13 rfl rfl rfl rfl (Ent.nothing _) rfl ?_
              rintro _ _ ⟨rfl, rfl⟩
              refine ⟨rfl, rfl, ?_⟩
              refine OL.qt (Y.assign rfl) rfl ?_
              refine OL.nil ?_
              refine EX.tail ?_
              refine OL.q (Y.assign rfl) rfl ?_
              refine OL.nil ?_
              refine EX.norB ?_
              have hbd := pop_bd n hL
              exact EX.meet ((S.pop n).2, (S.pop n).1) [0, 1] ⟨show (S.pop n).2.ents.length ≤ i + 1 by omega, hbd.1⟩ ⟨rfl, rfl, rfl, rfl, rfl, rfl, rfl, rfl, trivial⟩ rfl rfl
        ·
          clear he hL
          rintro ⟨S, c⟩ ⟨he, hL⟩
          dsimp only at he hL ⊢
          refine CW.seq ?_
          refine CW.seq ?_
          refine CW.read _ (fun v : RefV => scopeAt t S :: (refL r S v ++ [])) ref_mid ?_
          rintro v ⟨hn, ⟨e1, e2, e3⟩, c1, c2, c3⟩
          refine CW.drawn [(true, 0), (true, 1), (true, 2), (true, 3), (true, 4), (true, 6), (true, 7), (true, 8), (true, 9), (false, 5), (true, 10), (true, 11), (true, 12), (true, 13), (true, 15), (true, 16), (true, 17), (true, 18), (false, 14), (false, 19), (true, 20), (true, 21)] [] [1] mixed (by kernel_rfl) (by repeat (first | exact PanicOk.body | refine PanicOk.then ?_ | refine PanicOk.block ?_)) (by kernel_rfl) rfl rfl rfl rfl ?_
          refine OL.qt (Y.move rfl) rfl ?_
          refine OL.qt (Y.move rfl) rfl ?_
          refine OL.qt (Y.neq rfl rfl) rfl ?_
          refine OL.qt (Y.move rfl) rfl ?_
          refine OL.guard (s := 72) rfl (fun g16_3 => ?_) (fun g16_3 => ?_)
          · have ng16_3 := g16_3
            repeat (first | replace ng16_3 := yes ng16_3 | replace ng16_3 := no ng16_3 | replace ng16_3 := nyes ng16_3 | replace ng16_3 := nno ng16_3)
            exfalso
            first | omega | contradiction | exact absurd rfl ng16_3 | exact absurd ng16_3 (by simp) | exact absurd ng16_3 (by decide)
          · have ng16_3 := g16_3
            repeat (first | replace ng16_3 := yes ng16_3 | replace ng16_3 := no ng16_3 | replace ng16_3 := nyes ng16_3 | replace ng16_3 := nno ng16_3)
            refine OL.ont g16_3 rfl rfl ?_
            refine OL.qt (Y.move rfl) rfl ?_
            refine OL.ont g16_3 rfl rfl ?_
            refine OL.qt (Y.move rfl) rfl ?_
            refine OL.ont g16_3 rfl rfl ?_
            refine OL.qt (Y.nilCheck rfl) rfl ?_
            refine OL.ont g16_3 rfl rfl ?_
            refine OL.qt (Y.field L30_3 rfl) rfl ?_
            refine OL.ont g16_3 rfl rfl ?_
            first | refine OL.qt (Y.load T3 rfl (Ent.at 0 rfl (Up.cellIs _ _ _) (blk_cell rfl))) rfl ?_ | refine OL.qt (Y.load T3 rfl (Ent.at 1 rfl (Up.cellIs _ _ _) (blk_cell rfl))) rfl ?_ | refine OL.qt (Y.load T3 rfl (Ent.at 2 rfl (Up.cellIs _ _ _) (blk_cell rfl))) rfl ?_ | refine OL.qt (Y.load T3 rfl (Ent.at 3 rfl (Up.cellIs _ _ _) (blk_cell rfl))) rfl ?_ | refine OL.qt (Y.load T3 rfl (Ent.at 4 rfl (Up.cellIs _ _ _) (blk_cell rfl))) rfl ?_ | refine OL.qt (Y.load T3 rfl (Ent.at 5 rfl (Up.cellIs _ _ _) (blk_cell rfl))) rfl ?_
            refine OL.on g16_3 rfl rfl ?_
            refine OL.call [0] (levels_any t S) Try.call14 rfl rfl rfl rfl (Ent.nothing _) rfl ?_
            rintro _ _ ⟨rfl, rfl⟩
            refine ⟨rfl, rfl, ?_⟩
            refine OL.ont g16_3 rfl rfl ?_
            refine OL.qt (Y.neq rfl rfl) rfl ?_
            refine OL.qt (Y.pickF rfl g16_3 rfl) rfl ?_
            refine OL.qt (Y.move rfl) rfl ?_
            refine OL.guard (s := 81) rfl (fun g16_12 => ?_) (fun g16_12 => ?_)
            · have ng16_12 := g16_12
              repeat (first | replace ng16_12 := yes ng16_12 | replace ng16_12 := no ng16_12 | replace ng16_12 := nyes ng16_12 | replace ng16_12 := nno ng16_12)
              exfalso
              first | omega | contradiction | exact absurd rfl ng16_12 | exact absurd ng16_12 (by simp) | exact absurd ng16_12 (by decide)
            · have ng16_12 := g16_12
              repeat (first | replace ng16_12 := yes ng16_12 | replace ng16_12 := no ng16_12 | replace ng16_12 := nyes ng16_12 | replace ng16_12 := nno ng16_12)
              refine OL.ont g16_12 rfl rfl ?_
              refine OL.qt (Y.move rfl) rfl ?_
              refine OL.ont g16_12 rfl rfl ?_
              refine OL.qt (Y.move rfl) rfl ?_
              refine OL.ont g16_12 rfl rfl ?_
              refine OL.qt (Y.nilCheck rfl) rfl ?_
              refine OL.ont g16_12 rfl rfl ?_
              refine OL.qt (Y.field L30_0 rfl) rfl ?_
              refine OL.ont g16_12 rfl rfl ?_
              first | refine OL.qt (Y.load T23 rfl (Ent.at 0 rfl (Up.cellIs _ _ _) (blk_cell rfl))) rfl ?_ | refine OL.qt (Y.load T23 rfl (Ent.at 1 rfl (Up.cellIs _ _ _) (blk_cell rfl))) rfl ?_ | refine OL.qt (Y.load T23 rfl (Ent.at 2 rfl (Up.cellIs _ _ _) (blk_cell rfl))) rfl ?_ | refine OL.qt (Y.load T23 rfl (Ent.at 3 rfl (Up.cellIs _ _ _) (blk_cell rfl))) rfl ?_ | refine OL.qt (Y.load T23 rfl (Ent.at 4 rfl (Up.cellIs _ _ _) (blk_cell rfl))) rfl ?_ | refine OL.qt (Y.load T23 rfl (Ent.at 5 rfl (Up.cellIs _ _ _) (blk_cell rfl))) rfl ?_
              refine OL.on g16_12 rfl rfl ?_
              refine OL.call [0] (names_any t S (by omega)) Try.call16 rfl rfl rfl rfl (Ent.nothing _) rfl ?_
              rintro _ _ ⟨na, nc, rfl, rfl⟩
              refine ⟨rfl, rfl, ?_⟩
              refine OL.on g16_12 rfl rfl ?_
              refine OL.call [] (same_any na v.na S.ents.length nc v.nn v.nc (S.ents.map Prod.fst) (S.ents.map Prod.fst) (by simp) (by simp [e1]) (by omega)) Try.call15 rfl rfl rfl rfl (fun h hs => ⟨by rw [List.map_map]; exact Ent.at 5 rfl (Up.rd _ _ _ _) row_rd h hs, by rw [List.map_map]; exact Ent.at 2 rfl (Up.rd _ _ _ _) row_rd h hs⟩) rfl ?_
              rintro _ _ ⟨rfl, rfl⟩
              refine ⟨rfl, rfl, ?_⟩
              refine OL.ont g16_12 rfl rfl ?_
              refine OL.qt (Y.not rfl) rfl ?_
              refine OL.qt (Y.pickF rfl g16_12 rfl) rfl ?_
              refine OL.nil ?_
              refine EX.tail ?_
              refine OL.nil ?_
              refine EX.seq ?_
              refine CW.cond rfl (fun h5 => ?_) (fun h5 => ?_)
              · repeat (first | replace h5 := yes h5 | replace h5 := no h5 | replace h5 := nyes h5 | replace h5 := nno h5)
                exfalso
                first | omega | contradiction | exact absurd rfl h5 | exact absurd h5 (by simp) | exact absurd h5 (by decide)
              repeat (first | replace h5 := yes h5 | replace h5 := no h5 | replace h5 := nyes h5 | replace h5 := nno h5)
              refine CW.skip ?_
              refine EX.seq ?_
              refine CW.seq ?_
              refine CW.drawn [(true, 1), (true, 3), (true, 4), (true, 5), (true, 6), (true, 9), (false, 0), (false, 2), (false, 7), (true, 8)] [] [1] mixed (by kernel_rfl) (by repeat (first | exact PanicOk.body | refine PanicOk.then ?_ | refine PanicOk.block ?_)) (by kernel_rfl) rfl rfl rfl rfl ?_
              refine OL.qt (Y.move rfl) rfl ?_
              refine OL.qt (Y.move rfl) rfl ?_
              refine OL.qt (Y.nilCheck rfl) rfl ?_
              refine OL.qt (Y.field L30_0 rfl) rfl ?_
              first | refine OL.qt (Y.load T23 rfl (Ent.at 0 rfl (Up.cellIs _ _ _) (blk_cell rfl))) rfl ?_ | refine OL.qt (Y.load T23 rfl (Ent.at 1 rfl (Up.cellIs _ _ _) (blk_cell rfl))) rfl ?_ | refine OL.qt (Y.load T23 rfl (Ent.at 2 rfl (Up.cellIs _ _ _) (blk_cell rfl))) rfl ?_ | refine OL.qt (Y.load T23 rfl (Ent.at 3 rfl (Up.cellIs _ _ _) (blk_cell rfl))) rfl ?_ | refine OL.qt (Y.load T23 rfl (Ent.at 4 rfl (Up.cellIs _ _ _) (blk_cell rfl))) rfl ?_ | refine OL.qt (Y.load T23 rfl (Ent.at 5 rfl (Up.cellIs _ _ _) (blk_cell rfl))) rfl ?_
              refine OL.qt (Y.move rfl) rfl ?_
              refine OL.buildSlice ([]) Try.underlying23 C9 (by decide) rfl (by decide) rfl rfl rfl (fun b91 => ⟨rfl, rfl, ?_⟩)
              refine OL.append (ask.map strCells) 6 rfl Try.underlying23 E9 rfl rfl (Ent.frame (Up.rd _ _ _ _) (fun h hs => (hF h hs).2)) (oneRows_map _ (fun _ => rfl) _) (by omega) (by omega) rfl (fun a93 c93 => ⟨rfl, rfl, ?_⟩)
              refine OL.append (S.ents.map fun p => strCells p.1) 6 rfl Try.underlying23 E9 rfl rfl (Ent.at 2 rfl (Up.rd _ _ _ _) row_rd) (oneRows_map _ (fun _ => rfl) _) (by omega) (by omega) rfl (fun a98 c98 => ⟨rfl, rfl, ?_⟩)
              refine OL.qt (Y.lenSl Try.underlying23 rfl) rfl ?_
              refine OL.nil ?_
              refine EX.tail ?_
              refine OL.nil ?_
              refine EX.seq ?_
              refine CW.block ?_
              generalize htot : 0 + qn + v.nn = tot
              refine CW.read (fun _ : Unit => True) (fun _ => [scopeAt t S, refAt r S, row a98 (tot) c98 9 1 ((ask ++ S.ents.map Prod.fst).map strCells)]) (fun h hs => ⟨(), trivial, ?_⟩) (fun _ _ => ?_)
              · have h2 := hs.picked (is := [0, 1, 2, 3, 4, 6]) rfl
                have h3 := ref_back (H := [_]) v hn h h2
                have e9 : (ask ++ S.ents.map Prod.fst).map strCells = ([] ++ ask.map strCells) ++ S.ents.map fun p => strCells p.1 := by simp
                rw [e9]
                exact h3
              refine CW.loop (α := Nat) ⟨fun k => k ≤ tot, fun k => [(1, .slice qa qn qc), (5, .pointer (some ⟨t, 0, none⟩)), (6, .pointer (some ⟨r, 0, none⟩)), (29, .slice la ln lc), (30, .int .i64 ln), (31, .int .i64 i), (98, .slice a98 (tot) c98), (99, .int .i64 tot), (100, .int .i64 k)],
                    fun _ => [scopeAt t S, refAt r S, row a98 (tot) c98 9 1 ((ask ++ S.ents.map Prod.fst).map strCells)]⟩
                (fun k => tot - k) 0 [0, 1, 2] (Nat.zero_le _) ⟨rfl, rfl, rfl, rfl, rfl, rfl, rfl, rfl, rfl, trivial⟩ rfl rfl ?_
              intro k hk
              dsimp only at hk ⊢
              refine CW.seq ?_
              refine CW.region ?_
              refine OL.q (Y.lss rfl rfl) rfl ?_
              refine OL.nil ?_
              refine EX.seq ?_
              refine CW.seq ?_
              refine CW.cond rfl (fun h6 => ?_) (fun h6 => ?_)
              · repeat (first | replace h6 := yes h6 | replace h6 := no h6 | replace h6 := nyes h6 | replace h6 := nno h6)
                obtain ⟨s, hsk⟩ : ∃ s, (ask ++ S.ents.map Prod.fst)[k]? = some s := ⟨_, List.getElem?_eq_getElem (by simp; omega)⟩
                refine CW.skip ?_
                refine EX.seq ?_
                refine CW.seq ?_
                refine CW.block ?_
                refine CW.seq ?_
                refine CW.region ?_
                first | refine OL.q (Y.index Try.underlying23 C9 rfl rfl (Ent.at 0 rfl (Up.rd _ _ _ _) row_rd) rfl (by omega)) rfl ?_ | refine OL.q (Y.index Try.underlying23 C9 rfl rfl (Ent.at 1 rfl (Up.rd _ _ _ _) row_rd) rfl (by omega)) rfl ?_ | refine OL.q (Y.index Try.underlying23 C9 rfl rfl (Ent.at 2 rfl (Up.rd _ _ _ _) row_rd) rfl (by omega)) rfl ?_ | refine OL.q (Y.index Try.underlying23 C9 rfl rfl (Ent.at 3 rfl (Up.rd _ _ _ _) row_rd) rfl (by omega)) rfl ?_ | refine OL.q (Y.index Try.underlying23 C9 rfl rfl (Ent.at 4 rfl (Up.rd _ _ _ _) row_rd) rfl (by omega)) rfl ?_ | refine OL.q (Y.index Try.underlying23 C9 rfl rfl (Ent.at 5 rfl (Up.rd _ _ _ _) row_rd) rfl (by omega)) rfl ?_
                refine OL.q (Y.load T9 rfl (cellsIs_at0 (rd_at (Ent.at 2 rfl (Up.rd _ _ _ _) row_rd) (mget strCells hsk)) rfl)) rfl ?_
                refine OL.q (Y.assign rfl) rfl ?_
                refine OL.nil ?_
                refine EX.seq ?_
                refine CW.seq ?_
                cases hps : posOf s S.ents
                · skip
                  refine CW.region ?_
                  refine OL.q (Y.move rfl) rfl ?_
                  refine OL.q (Y.move rfl) rfl ?_
                  refine OL.call [0] (find_none t S s hps) Try.call17 rfl rfl rfl rfl (Ent.nothing _) rfl ?_
                  rintro _ _ ⟨rfl, rfl⟩
                  refine ⟨rfl, rfl, ?_⟩
                  refine OL.q (Y.move rfl) rfl ?_
                  refine OL.q (Y.extract rfl rfl) rfl ?_
                  refine OL.q (Y.extract rfl rfl) rfl ?_
                  refine OL.q (Y.assign rfl) rfl ?_
                  refine OL.q (Y.assign rfl) rfl ?_
                  refine OL.nil ?_
                  refine EX.seq ?_
                  refine CW.seq ?_
                  refine CW.region ?_
                  refine OL.q (Y.move rfl) rfl ?_
                  refine OL.q (Y.move rfl) rfl ?_
                  refine OL.call [1] (rfind_none r S s (by omega) hps) Try.call18 rfl rfl rfl rfl (Ent.nothing _) rfl ?_
                  rintro _ _ ⟨rfl, rfl⟩
                  refine ⟨rfl, rfl, ?_⟩
                  refine OL.q (Y.assign rfl) rfl ?_
                  refine OL.nil ?_
                  refine EX.seq ?_
                  refine CW.seq ?_
                  refine CW.region ?_
                  refine OL.q (Y.move rfl) rfl ?_
                  refine OL.q (Y.move rfl) rfl ?_
                  refine OL.q (Y.geq rfl rfl) rfl ?_
                  refine OL.q (Y.neqB Try.underlying4 rfl rfl) rfl ?_
                  refine OL.q (Y.move rfl) rfl ?_
                  refine OL.guard (s := 117) rfl (fun g23_4 => ?_) (fun g23_4 => ?_)
                  · have ng23_4 := g23_4
                    repeat (first | replace ng23_4 := yes ng23_4 | replace ng23_4 := no ng23_4 | replace ng23_4 := nyes ng23_4 | replace ng23_4 := nno ng23_4)
                    exfalso
                    first | omega | contradiction | exact absurd rfl ng23_4 | exact absurd ng23_4 (by simp) | exact absurd ng23_4 (by decide)
                  · have ng23_4 := g23_4
                    repeat (first | replace ng23_4 := yes ng23_4 | replace ng23_4 := no ng23_4 | replace ng23_4 := nyes ng23_4 | replace ng23_4 := nno ng23_4)
                    refine OL.on g23_4 rfl rfl ?_
                    refine OL.q (Y.move rfl) rfl ?_
                    refine OL.on g23_4 rfl rfl ?_
                    refine OL.q (Y.move rfl) rfl ?_
                    refine OL.guard (s := 119) rfl (fun g23_6 => ?_) (fun g23_6 => ?_)
                    · have ng23_6 := g23_6
                      repeat (first | replace ng23_6 := yes ng23_6 | replace ng23_6 := no ng23_6 | replace ng23_6 := nyes ng23_6 | replace ng23_6 := nno ng23_6)
                      exfalso
                      first | omega | contradiction | exact absurd rfl ng23_6 | exact absurd ng23_6 (by simp) | exact absurd ng23_6 (by decide)
                    · have ng23_6 := g23_6
                      repeat (first | replace ng23_6 := yes ng23_6 | replace ng23_6 := no ng23_6 | replace ng23_6 := nyes ng23_6 | replace ng23_6 := nno ng23_6)
                      refine OL.no g23_6 rfl rfl rfl ?_
                      refine OL.no g23_6 rfl rfl rfl ?_
                      refine OL.no g23_6 rfl rfl rfl ?_
                      refine OL.no g23_6 rfl rfl rfl ?_
                      refine OL.no g23_6 rfl rfl rfl ?_
                      refine OL.no g23_6 rfl rfl rfl ?_
                      refine OL.no g23_6 rfl rfl rfl ?_
                      refine OL.no g23_6 rfl rfl rfl ?_
                      refine OL.no g23_6 rfl rfl rfl ?_
                      refine OL.on g23_4 rfl rfl ?_
                      refine OL.q (Y.pickF rfl g23_6 rfl) rfl ?_
                      refine OL.q (Y.pickF rfl g23_4 rfl) rfl ?_
                      refine OL.q (Y.move rfl) rfl ?_
                      refine OL.guard (s := 131) rfl (fun g23_18 => ?_) (fun g23_18 => ?_)
                      · have ng23_18 := g23_18
                        repeat (first | replace ng23_18 := yes ng23_18 | replace ng23_18 := no ng23_18 | replace ng23_18 := nyes ng23_18 | replace ng23_18 := nno ng23_18)
                        exfalso
                        first | omega | contradiction | exact absurd rfl ng23_18 | exact absurd ng23_18 (by simp) | exact absurd ng23_18 (by decide)
                      · have ng23_18 := g23_18
                        repeat (first | replace ng23_18 := yes ng23_18 | replace ng23_18 := no ng23_18 | replace ng23_18 := nyes ng23_18 | replace ng23_18 := nno ng23_18)
                        refine OL.on g23_18 rfl rfl ?_
                        refine OL.q (Y.move rfl) rfl ?_
                        refine OL.on g23_18 rfl rfl ?_
                        refine OL.q (Y.not rfl) rfl ?_
                        refine OL.on g23_18 rfl rfl ?_
                        refine OL.q (Y.move rfl) rfl ?_
                        refine OL.guard (s := 134) rfl (fun g23_21 => ?_) (fun g23_21 => ?_)
                        · have ng23_21 := g23_21
                          repeat (first | replace ng23_21 := yes ng23_21 | replace ng23_21 := no ng23_21 | replace ng23_21 := nyes ng23_21 | replace ng23_21 := nno ng23_21)
                          refine OL.on g23_21 rfl rfl ?_
                          refine OL.q (Y.move rfl) rfl ?_
                          refine OL.on g23_21 rfl rfl ?_
                          refine OL.q (Y.neq rfl rfl) rfl ?_
                          refine OL.on g23_18 rfl rfl ?_
                          refine OL.q (Y.pickT rfl g23_21 rfl) rfl ?_
                          refine OL.q (Y.pickF rfl g23_18 rfl) rfl ?_
                          refine OL.nil ?_
                          refine EX.seq ?_
                          refine CW.cond rfl (fun h7 => ?_) (fun h7 => ?_)
                          · repeat (first | replace h7 := yes h7 | replace h7 := no h7 | replace h7 := nyes h7 | replace h7 := nno h7)
                            exfalso
                            first | omega | contradiction | exact absurd rfl h7 | exact absurd h7 (by simp) | exact absurd h7 (by decide)
                          repeat (first | replace h7 := yes h7 | replace h7 := no h7 | replace h7 := nyes h7 | replace h7 := nno h7)
                          refine CW.skip ?_
                          refine EX.norB ?_
                          refine EX.seq ?_
                          refine CW.region ?_
                          first | refine OL.q (Y.add1 rfl rfl rfl (by omega)) rfl ?_ | refine OL.q (Y.addN rfl rfl (by omega)) rfl ?_ | refine OL.q (Y.add rfl rfl (by omega)) rfl ?_
                          refine OL.q (Y.move rfl) rfl ?_
                          refine OL.nil ?_
                          exact EX.next (k + 1) [0, 1, 2] (show k + 1 ≤ tot by omega) (show tot - (k + 1) < tot - k by omega) ⟨rfl, rfl, rfl, rfl, rfl, rfl, rfl, rfl, rfl, trivial⟩ rfl rfl
                        · have ng23_21 := g23_21
                          repeat (first | replace ng23_21 := yes ng23_21 | replace ng23_21 := no ng23_21 | replace ng23_21 := nyes ng23_21 | replace ng23_21 := nno ng23_21)
                          exfalso
                          first | omega | contradiction | exact absurd rfl ng23_21 | exact absurd ng23_21 (by simp) | exact absurd ng23_21 (by decide)
                · rename_i p
                  obtain ⟨x, hx⟩ := posOf_at hps
                  refine CW.region ?_
                  refine OL.q (Y.move rfl) rfl ?_
                  refine OL.q (Y.move rfl) rfl ?_
                  refine OL.call [0] (find_some t S s p x hps hx) Try.call17 rfl rfl rfl rfl (Ent.nothing _) rfl ?_
                  rintro _ _ ⟨rfl, rfl⟩
                  refine ⟨rfl, rfl, ?_⟩
                  refine OL.q (Y.move rfl) rfl ?_
                  refine OL.q (Y.extract rfl rfl) rfl ?_
                  refine OL.q (Y.extract rfl rfl) rfl ?_
                  refine OL.q (Y.assign rfl) rfl ?_
                  refine OL.q (Y.assign rfl) rfl ?_
                  refine OL.nil ?_
                  refine EX.seq ?_
                  refine CW.seq ?_
                  refine CW.region ?_
                  refine OL.q (Y.move rfl) rfl ?_
                  refine OL.q (Y.move rfl) rfl ?_
                  refine OL.call [1] (rfind_some r S s (by omega) p hps) Try.call18 rfl rfl rfl rfl (Ent.nothing _) rfl ?_
                  rintro _ _ ⟨rfl, rfl⟩
                  refine ⟨rfl, rfl, ?_⟩
                  refine OL.q (Y.assign rfl) rfl ?_
                  refine OL.nil ?_
                  refine EX.seq ?_
                  refine CW.seq ?_
                  refine CW.read _ (fun v : RefV => scopeAt t S :: (refL r S v ++ [row a98 tot c98 9 1 ((ask ++ S.ents.map Prod.fst).map strCells)])) ref_mid ?_
                  rintro v ⟨hn, ⟨e1, e2, e3⟩, c1, c2, c3⟩
                  have hpl : p < S.ents.length := (List.getElem?_eq_some_iff.1 hx).1
                  refine CW.region ?_
                  refine OL.q (Y.move rfl) rfl ?_
                  refine OL.q (Y.move rfl) rfl ?_
                  refine OL.q (Y.geq rfl rfl) rfl ?_
                  refine OL.q (Y.neqB Try.underlying4 rfl rfl) rfl ?_
                  refine OL.q (Y.move rfl) rfl ?_
                  refine OL.guard (s := 117) rfl (fun g23_4 => ?_) (fun g23_4 => ?_)
                  · have ng23_4 := g23_4
                    repeat (first | replace ng23_4 := yes ng23_4 | replace ng23_4 := no ng23_4 | replace ng23_4 := nyes ng23_4 | replace ng23_4 := nno ng23_4)
                    exfalso
                    first | omega | contradiction | exact absurd rfl ng23_4 | exact absurd ng23_4 (by simp) | exact absurd ng23_4 (by decide)
                  · have ng23_4 := g23_4
                    repeat (first | replace ng23_4 := yes ng23_4 | replace ng23_4 := no ng23_4 | replace ng23_4 := nyes ng23_4 | replace ng23_4 := nno ng23_4)
                    refine OL.on g23_4 rfl rfl ?_
                    refine OL.q (Y.move rfl) rfl ?_
                    refine OL.on g23_4 rfl rfl ?_
                    refine OL.q (Y.move rfl) rfl ?_
                    refine OL.guard (s := 119) rfl (fun g23_6 => ?_) (fun g23_6 => ?_)
                    · have ng23_6 := g23_6
                      repeat (first | replace ng23_6 := yes ng23_6 | replace ng23_6 := no ng23_6 | replace ng23_6 := nyes ng23_6 | replace ng23_6 := nno ng23_6)
                      refine OL.on g23_6 rfl rfl ?_
                      refine OL.q (Y.move rfl) rfl ?_
                      refine OL.on g23_6 rfl rfl ?_
                      refine OL.q (Y.move rfl) rfl ?_
                      refine OL.on g23_6 rfl rfl ?_
                      refine OL.q (Y.nilCheck rfl) rfl ?_
                      refine OL.on g23_6 rfl rfl ?_
                      refine OL.q (Y.field L30_1 rfl) rfl ?_
                      refine OL.on g23_6 rfl rfl ?_
                      first | refine OL.q (Y.load T28 rfl (Ent.at 0 rfl (Up.cellIs _ _ _) (blk_cell rfl))) rfl ?_ | refine OL.q (Y.load T28 rfl (Ent.at 1 rfl (Up.cellIs _ _ _) (blk_cell rfl))) rfl ?_ | refine OL.q (Y.load T28 rfl (Ent.at 2 rfl (Up.cellIs _ _ _) (blk_cell rfl))) rfl ?_ | refine OL.q (Y.load T28 rfl (Ent.at 3 rfl (Up.cellIs _ _ _) (blk_cell rfl))) rfl ?_ | refine OL.q (Y.load T28 rfl (Ent.at 4 rfl (Up.cellIs _ _ _) (blk_cell rfl))) rfl ?_ | refine OL.q (Y.load T28 rfl (Ent.at 5 rfl (Up.cellIs _ _ _) (blk_cell rfl))) rfl ?_
                      refine OL.on g23_6 rfl rfl ?_
                      refine OL.q (Y.move rfl) rfl ?_
                      refine OL.on g23_6 rfl rfl ?_
                      refine OL.q (Y.index Try.underlying28 C3 rfl rfl (Ent.at 3 rfl (Up.rd _ _ _ _) row_rd) rfl (by omega)) rfl ?_
                      refine OL.on g23_6 rfl rfl ?_
                      refine OL.q (Y.load T3 rfl (cellsIs_at0 (rd_at (Ent.at 3 rfl (Up.rd _ _ _ _) row_rd) (mget (fun p : ByteArray × Int => intCells p.2) hx)) rfl)) rfl ?_
                      refine OL.on g23_6 rfl rfl ?_
                      refine OL.q (Y.neq rfl rfl) rfl ?_
                      refine OL.on g23_4 rfl rfl ?_
                      refine OL.q (Y.pickT rfl g23_6 rfl) rfl ?_
                      refine OL.q (Y.pickF rfl g23_4 rfl) rfl ?_
                      refine OL.q (Y.move rfl) rfl ?_
                      refine OL.guard (s := 131) rfl (fun g23_18 => ?_) (fun g23_18 => ?_)
                      · have ng23_18 := g23_18
                        repeat (first | replace ng23_18 := yes ng23_18 | replace ng23_18 := no ng23_18 | replace ng23_18 := nyes ng23_18 | replace ng23_18 := nno ng23_18)
                        exfalso
                        first | omega | contradiction | exact absurd rfl ng23_18 | exact absurd ng23_18 (by simp) | exact absurd ng23_18 (by decide)
                      · have ng23_18 := g23_18
                        repeat (first | replace ng23_18 := yes ng23_18 | replace ng23_18 := no ng23_18 | replace ng23_18 := nyes ng23_18 | replace ng23_18 := nno ng23_18)
                        refine OL.on g23_18 rfl rfl ?_
                        refine OL.q (Y.move rfl) rfl ?_
                        refine OL.on g23_18 rfl rfl ?_
                        refine OL.q (Y.not rfl) rfl ?_
                        refine OL.on g23_18 rfl rfl ?_
                        refine OL.q (Y.move rfl) rfl ?_
                        refine OL.guard (s := 134) rfl (fun g23_21 => ?_) (fun g23_21 => ?_)
                        · have ng23_21 := g23_21
                          repeat (first | replace ng23_21 := yes ng23_21 | replace ng23_21 := no ng23_21 | replace ng23_21 := nyes ng23_21 | replace ng23_21 := nno ng23_21)
                          exfalso
                          first | omega | contradiction | exact absurd rfl ng23_21 | exact absurd ng23_21 (by simp) | exact absurd ng23_21 (by decide)
                        · have ng23_21 := g23_21
                          repeat (first | replace ng23_21 := yes ng23_21 | replace ng23_21 := no ng23_21 | replace ng23_21 := nyes ng23_21 | replace ng23_21 := nno ng23_21)
                          refine OL.no g23_21 rfl rfl rfl ?_
                          refine OL.no g23_21 rfl rfl rfl ?_
                          refine OL.on g23_18 rfl rfl ?_
                          refine OL.q (Y.pickF rfl g23_21 rfl) rfl ?_
                          refine OL.q (Y.pickF rfl g23_18 rfl) rfl ?_
                          refine OL.nil ?_
                          refine EX.seq ?_
                          refine CW.cond rfl (fun h7 => ?_) (fun h7 => ?_)
                          · repeat (first | replace h7 := yes h7 | replace h7 := no h7 | replace h7 := nyes h7 | replace h7 := nno h7)
                            exfalso
                            first | omega | contradiction | exact absurd rfl h7 | exact absurd h7 (by simp) | exact absurd h7 (by decide)
                          repeat (first | replace h7 := yes h7 | replace h7 := no h7 | replace h7 := nyes h7 | replace h7 := nno h7)
                          refine CW.skip ?_
                          refine EX.norB ?_
                          refine EX.seq ?_
                          refine CW.read (fun _ : Unit => True) (fun _ => [scopeAt t S, refAt r S, row a98 tot c98 9 1 ((ask ++ S.ents.map Prod.fst).map strCells)]) (fun h hs => ⟨(), trivial, ref_back v hn h hs⟩) (fun _ _ => ?_)
                          refine CW.region ?_
                          first | refine OL.q (Y.add1 rfl rfl rfl (by omega)) rfl ?_ | refine OL.q (Y.addN rfl rfl (by omega)) rfl ?_ | refine OL.q (Y.add rfl rfl (by omega)) rfl ?_
                          refine OL.q (Y.move rfl) rfl ?_
                          refine OL.nil ?_
                          exact EX.next (k + 1) [0, 1, 2] (show k + 1 ≤ tot by omega) (show tot - (k + 1) < tot - k by omega) ⟨rfl, rfl, rfl, rfl, rfl, rfl, rfl, rfl, rfl, trivial⟩ rfl rfl
                    · have ng23_6 := g23_6
                      repeat (first | replace ng23_6 := yes ng23_6 | replace ng23_6 := no ng23_6 | replace ng23_6 := nyes ng23_6 | replace ng23_6 := nno ng23_6)
                      exfalso
                      first | omega | contradiction | exact absurd rfl ng23_6 | exact absurd ng23_6 (by simp) | exact absurd ng23_6 (by decide)
              · repeat (first | replace h6 := yes h6 | replace h6 := no h6 | replace h6 := nyes h6 | replace h6 := nno h6)
                refine CW.exit ?_
                refine EX.exitT ?_
                refine EX.exitT ?_
                refine EX.exitB ?_
                refine EX.norB ?_
                refine EX.seq ?_
                refine CW.region ?_
                first | refine OL.q (Y.add1 rfl rfl rfl (by omega)) rfl ?_ | refine OL.q (Y.addN rfl rfl (by omega)) rfl ?_ | refine OL.q (Y.add rfl rfl (by omega)) rfl ?_
                refine OL.q (Y.move rfl) rfl ?_
                refine OL.nil ?_
                exact EX.next (i + 1, S) [0, 1] ⟨show i + 1 ≤ ln by omega, show S.ents.length ≤ i + 1 by omega, hL⟩ (show ln - (i + 1) < ln - i by omega) ⟨rfl, rfl, rfl, rfl, rfl, rfl, trivial⟩ rfl rfl
      · repeat (first | replace h2 := yes h2 | replace h2 := no h2 | replace h2 := nyes h2 | replace h2 := nno h2)
        refine CW.exit ?_
        refine EX.exitT ?_
        refine EX.exitT ?_
        refine EX.exitB ?_
        refine EX.seq ?_
        refine CW.seq ?_
        refine CW.region ?_
        refine OL.q (Y.assign rfl) rfl ?_
        refine OL.nil ?_
        refine EX.seq ?_
        refine CW.ret ?_
        exact EX.fin1 [] rfl rfl rfl ⟨rfl, rfl⟩
end Go.Proofs.Ythnejajlkijobaa
