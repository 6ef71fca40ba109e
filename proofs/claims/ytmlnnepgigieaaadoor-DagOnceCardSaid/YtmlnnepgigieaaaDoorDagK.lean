/- An arena as one chunk, in plain data: what each of its functions comes to. -/
import Derived.Test.YtmlnnepgigieaaaDoorDagJ
namespace Go.Proofs.YtmlnnepgigieaaaDoor
open Go.Sx

theorem B97 : StT Tryd.prog 97 [(0, 1), (1, 1), (2, 1), (3, 1), (4, 1), (5, 1), (6, 1), (7, 1)] [.int .i64 0, .slice none 0 0, .map none, .slice none 0 0, .slice none 0 0, .slice none 0 0, .slice none 0 0, .slice none 0 0] := StT.of (it := Tryd.t97) (by kernel_rfl) Tryd.underlying97 rfl rfl (by kernel_rfl)


def SortP.c (s : SortP) : SortC := ⟨s.name, none, 0, 0, s.args⟩
def FunP.c (f : FunP) : FunC := ⟨f.name, none, 0, 0, f.args, f.result⟩
def TermP.c (x : TermP) : TermC := ⟨x.op, x.fn, none, 0, 0, x.kids, x.num⟩
/-- An arena, in plain data. -/
structure ArP where
  most : Nat
  sorts : List SortP
  funs : List FunP
  terms : List TermP
  of : List Int
  cons : List Bool
def ArP.c (A : ArP) : DagS := ⟨A.most, A.sorts.map SortP.c, A.funs.map FunP.c, A.terms.map TermP.c, A.of, A.cons, []⟩
def DagS.q (S : DagS) : ArP := ⟨S.most, S.sorts.map SortC.q, S.funs.map FunC.q, S.terms.map TermC.q, S.of, S.cons⟩
/-- What is wrong with a term; its sort; whether it is constant. -/
def ArP.wrong (A : ArP) (x : TermP) : Int := wrongE A.c x.c
def ArP.res (A : ArP) (x : TermP) : Int := resE A.c x.c
def ArP.isC (A : ArP) (x : TermP) : Bool := newC A.c x.c
def sameP (x y : TermP) : Bool := sameT x.c y.c
theorem sameP_iff {x y : TermP} : sameP x y = true ↔ x = y := by
  obtain ⟨a, b, c, d⟩ := x; obtain ⟨a', b', c', d'⟩ := y
  simp only [sameP, sameT, TermP.c, Bool.and_eq_true, TermP.mk.injEq]
  constructor
  · rintro ⟨⟨⟨h1, h2⟩, h3⟩, h4⟩; exact ⟨of_decide_eq_true h1, of_decide_eq_true h2, of_decide_eq_true h4, of_decide_eq_true h3⟩
  · rintro ⟨h1, h2, h3, h4⟩; exact ⟨⟨⟨decide_eq_true h1, decide_eq_true h2⟩, decide_eq_true h4⟩, decide_eq_true h3⟩
theorem getD_map {α β : Type _} (f : α → β) (l : List α) (k : Nat) (d : α) : (l.map f).getD k (f d) = f (l.getD k d) := by
  simp only [List.getD_eq_getElem?_getD, List.getElem?_map]
  cases l[k]? <;> rfl
theorem funAt_q (S : DagS) (k : Int) : funAt S.q.c k = (funAt S k).q.c := by
  unfold funAt
  have := getD_map (fun f : FunC => f.q.c) S.funs k.toNat ⟨⟨#[]⟩, none, 0, 0, [], 0⟩
  simp only [DagS.q, ArP.c, List.map_map]
  exact this
theorem wantE_q (S : DagS) (x : TermC) (i : Nat) : wantE S.q.c x.q.c i = wantE S x i := by
  unfold wantE
  rw [show (x.q.c).fn = x.fn from rfl, funAt_q]
  rfl
theorem wrong_q (S : DagS) (x : TermC) : S.q.wrong x.q = wrongE S x := by
  have h1 : S.q.c.funs.length = S.funs.length := by simp [DagS.q, ArP.c]
  have h2 : kidsE S.q.c x.q.c = kidsE S x := by
    unfold kidsE
    rw [show S.q.c.terms.length = S.terms.length by simp [DagS.q, ArP.c]]; rfl
  have h3 : countE S.q.c x.q.c = countE S x := by
    unfold countE
    rw [show (x.q.c).fn = x.fn from rfl, funAt_q]; rfl
  have h4 : sortE S.q.c x.q.c = sortE S x := by
    unfold sortE
    simp only [wantE_q]; rfl
  have h5 : prodE S.q.c x.q.c = prodE S x := rfl
  have h6 : headE S.funs.length x.q.c = headE S.funs.length x := rfl
  unfold ArP.wrong wrongE
  rw [h1, h2, h3, h4, h5, h6]
theorem res_q (S : DagS) (x : TermC) : S.q.res x.q = resE S x := by
  unfold ArP.res resE
  rw [show (x.q.c).fn = x.fn from rfl, funAt_q]; rfl
theorem isC_q (S : DagS) (x : TermC) : S.q.isC x.q = newC S x := rfl
/-- Where a sort, a term stands. -/
def findP (name : ByteArray) (l : List Int) : List SortP → Option Nat
  | [] => none
  | s :: r => if s.name = name ∧ s.args = l then some 0 else (findP name l r).map (· + 1)
theorem findP_q (name : ByteArray) (l : List Int) : ∀ r : List SortC, findP name l (r.map SortC.q) = findS name l r
  | [] => rfl
  | s :: r => by
    simp only [List.map_cons, findP, findS, findP_q name l r]; rfl
def findT (x : TermP) : List TermP → Option Nat
  | [] => none
  | y :: l => if sameP y x then some 0 else (findT x l).map (· + 1)
theorem findT_none {x : TermP} : ∀ {l : List TermP}, (∀ z ∈ l, sameP z x = false) → findT x l = none
  | [], _ => rfl
  | y :: l, h => by
    simp only [findT, h y (by simp)]
    rw [findT_none fun z hz => h z (by simp [hz])]
    rfl
theorem findT_first {x : TermP} : ∀ {l : List TermP} {m : Nat} {y : TermP}, l[m]? = some y → sameP y x = true → (∀ j z, j < m → l[j]? = some z → sameP z x = false) → findT x l = some m
  | [], m, y, h, _, _ => by simp at h
  | z :: l, 0, y, h, hs, _ => by
    simp at h; subst h
    simp [findT, hs]
  | z :: l, m + 1, y, h, hs, hb => by
    simp only [List.getElem?_cons_succ] at h
    have h0 := hb 0 z (by omega) rfl
    simp only [findT, h0]
    rw [findT_first h hs fun j w hj hw => hb (j + 1) w (by omega) (by simpa using hw)]
    rfl
theorem findT_some {x : TermP} : ∀ {l : List TermP} {m : Nat}, findT x l = some m → l[m]? = some x ∧ ∀ j z, j < m → l[j]? = some z → sameP z x = false
  | z :: l, m, h => by
    simp only [findT] at h
    by_cases hz : sameP z x = true
    · rw [if_pos hz] at h; cases h
      exact ⟨by simp [sameP_iff.1 hz], fun j _ hj => absurd hj (Nat.not_lt_zero j)⟩
    · rw [if_neg hz] at h
      cases hf : findT x l with
      | none => rw [hf] at h; cases h
      | some k =>
        rw [hf] at h; cases h
        obtain ⟨h1, h2⟩ := findT_some hf
        refine ⟨by simpa using h1, fun j w hj hw => ?_⟩
        cases j with
        | zero => simp at hw; subst hw; simpa using hz
        | succ j => exact h2 j w (by have : j + 1 < k + 1 := hj; omega) (by simpa using hw)
/-- What is done with an arena: the place, the error, what it then is. -/
def ArP.sort (A : ArP) (name : ByteArray) (l : List Int) : Int × Int × ArP :=
  if l.any (bad A.sorts.length) then (0, 2, A) else match findP name l A.sorts with
    | some k => ((k : Nat), 0, A)
    | none => ((A.sorts.length : Nat), 0, { A with sorts := A.sorts ++ [⟨name, l⟩] })
def ArP.func (A : ArP) (f : FunP) : Int × Int × ArP :=
  if f.args.any (bad A.sorts.length) || bad A.sorts.length f.result then (0, 2, A) else ((A.funs.length : Nat), 0, { A with funs := A.funs ++ [f] })
def ArP.put (A : ArP) (x : TermP) : ArP := { A with terms := A.terms ++ [x], of := A.of ++ [A.res x], cons := A.cons ++ [A.isC x] }
def ArP.term (A : ArP) (x : TermP) : Int × Int × ArP :=
  if A.wrong x ≠ 0 then (0, A.wrong x, A) else match findT x A.terms with
    | some m => ((m : Nat), 0, A)
    | none => if A.most ≤ A.terms.length then (0, 4, A) else ((A.terms.length : Nat), 0, A.put x)
/-- How many buckets so many terms have. -/
def nb : Nat → Nat
  | 0 => 16
  | k + 1 => if k + 1 ≤ nb k then nb k else 2 * nb k
theorem nb_ge : ∀ k, k ≤ nb k ∧ 0 < nb k
  | 0 => by simp [nb]
  | k + 1 => by
    have := nb_ge k
    simp only [nb]
    split <;> omega
theorem nb_le : ∀ k, nb k ≤ 16 + 2 * k
  | 0 => by simp [nb]
  | k + 1 => by
    have := nb_le k
    simp only [nb]
    split <;> omega
/-- An arena's memory is right. -/
structure ArOk (A : ArP) (S : DagS) (v : DagV) (M : PH) : Prop where
  q : S.q = A
  ok : DagOk M S v
  bucks : Bucks v.bn (S.terms.map hashT) S.bucks
  bn : v.bn = nb v.tn
  low : ∀ s ∈ S.sorts, low s.args
  szs : ∀ s ∈ S.sorts, s.n ≤ 1000000
  szf : ∀ f ∈ S.funs, f.n ≤ 1000000
  szt : ∀ y ∈ S.terms, y.Ok M ∧ y.n ≤ 1000000 ∧ y.num.size ≤ 1000000
  most : S.terms.length ≤ S.most ∧ S.most ≤ 1048576
theorem ArOk.sn {A : ArP} {S : DagS} {v : DagV} {M : PH} (h : ArOk A S v M) : v.sn = A.sorts.length := by rw [← h.ok.sn, ← h.q]; simp [DagS.q]
theorem ArOk.fn {A : ArP} {S : DagS} {v : DagV} {M : PH} (h : ArOk A S v M) : v.fn = A.funs.length := by rw [← h.ok.fn, ← h.q]; simp [DagS.q]
theorem ArOk.tn {A : ArP} {S : DagS} {v : DagV} {M : PH} (h : ArOk A S v M) : v.tn = A.terms.length := by rw [← h.ok.tn, ← h.q]; simp [DagS.q]
/-- An arena. -/
def arena (t : Nat) (A : ArP) : HP := fun h => ∃ x : DagS × DagV × PH, ArOk A x.1 x.2.1 x.2.2 ∧ sl (dagR t x.1 x.2.1 x.2.2) h
theorem Up.arena (t : Nat) (A : ArP) : Up (arena t A) := fun _ _ e ⟨x, h, hs⟩ => ⟨x, h, hs.mono e⟩
theorem sl_one {p : HP} {h : PH} (hp' : p h) : sl [p] h := ⟨h, fun _ => none, fun _ => .inr rfl, le.refl _, no_le _, hp', trivial⟩
theorem one_sl {p : HP} (hu : Up p) {h : PH} (hs : sl [p] h) : p h := by
  obtain ⟨h1, _, _, e1, _, k, _⟩ := hs
  exact hu _ _ e1 k
theorem FS.onArena {f : FuncId} {args : List Value} {R : HP} {post : Value → List HP → Prop} {t : Nat} {A : ArP}
    (h : ∀ S v M, ArOk A S v M → FS Tryd.prog f args R (dagR t S v M) (fun r H => ∃ A' S' v' M', ArOk A' S' v' M' ∧ H = dagR t S' v' M' ∧ post r [arena t A'])) : FS Tryd.prog f args R [arena t A] post :=
  FS.wrap (fun x : DagS × DagV × PH => ArOk A x.1 x.2.1 x.2.2) (fun x => dagR t x.1 x.2.1 x.2.2) (fun _ r H => ∃ A' S' v' M', ArOk A' S' v' M' ∧ H = dagR t S' v' M' ∧ post r [Proofs.YtmlnnepgigieaaaDoor.arena t A'])
    (fun h hs => by
      obtain ⟨x, hx, hl⟩ := one_sl (Up.arena t A) hs
      exact ⟨x, hx, hl⟩)
    (fun x hx => h x.1 x.2.1 x.2.2 hx)
    (fun _ _ r H ⟨A', S', v', M', ho, he, hp'⟩ => ⟨[Proofs.YtmlnnepgigieaaaDoor.arena t A'], fun k hk => sl_one ⟨(S', v', M'), ho, by rw [he] at hk; exact hk⟩, hp'⟩)
theorem FS.ofArena {f : FuncId} {args : List Value} {pre : List HP} {post : Value → List HP → Prop} {t : Nat} {A : ArP}
    (h : ∀ S v M, ArOk A S v M → FS Tryd.prog f args (fun h => sl (dagR t S v M) h) pre post) : FS Tryd.prog f args (arena t A) pre post :=
  FS.opens (fun x : DagS × DagV × PH => ArOk A x.1 x.2.1 x.2.2) (fun x h => sl (dagR t x.1 x.2.1 x.2.2) h) (fun _ => Up.sl _) (fun _ ⟨x, hx, hl⟩ => ⟨x, hx, hl⟩) (fun x hx => h x.1 x.2.1 x.2.2 hx)
theorem ArP.sort_bad {A : ArP} {name : ByteArray} {l : List Int} (h : l.any (bad A.sorts.length) = true) : A.sort name l = (0, 2, A) := by unfold ArP.sort; rw [if_pos h]
theorem ArP.sort_old {A : ArP} {name : ByteArray} {l : List Int} {k : Nat} (h : l.any (bad A.sorts.length) = false) (hk : findP name l A.sorts = some k) : A.sort name l = (((k : Nat) : Int), (0 : Int), A) := by unfold ArP.sort; rw [if_neg (by rw [h]; simp), hk]
theorem ArP.sort_new {A : ArP} {name : ByteArray} {l : List Int} (h : l.any (bad A.sorts.length) = false) (hk : findP name l A.sorts = none) : A.sort name l = (((A.sorts.length : Nat) : Int), (0 : Int), { A with sorts := A.sorts ++ [⟨name, l⟩] }) := by unfold ArP.sort; rw [if_neg (by rw [h]; simp), hk]
theorem Sort_w (t : Nat) (A : ArP) (name : ByteArray) (a : Option Addr) (n c : Nat) (l : List Int) (hl : l.length = n) (hn : n ≤ 1000000) (hs : name.size ≤ 1000000) (hA : A.sorts.length < 10000) :
    FS Tryd.prog 16 [.pointer (some ⟨t, 0, none⟩), .string name, .slice a n c] (fun h => tabP h ∧ rd a n 1 (l.map intCells) h) [arena t A]
      (fun r H => r = .tuple #[.int .i64 (A.sort name l).1, .int .i64 (A.sort name l).2.1] ∧ H = [arena t (A.sort name l).2.2]) := FS.onArena fun S v M h => by
  have hsn := h.sn
  have hq := h.q
  have hfq : findP name l A.sorts = findS name l S.sorts := by rw [← hq]; exact findP_q name l S.sorts
  have hsm := h.ok.small
  cases hb : l.any (bad v.sn) with
  | true =>
    have e := ArP.sort_bad (A := A) (name := name) (by rw [← hsn]; exact hb)
    rw [e]
    refine (sort_bad t S v M h.ok h.low name a n c l hl hn hs (by omega) hb).mono ?_
    rintro r H ⟨rfl, rfl⟩
    exact ⟨A, S, v, M, h, rfl, rfl, rfl⟩
  | false =>
    cases hf : findS name l S.sorts with
    | some k =>
      have e := ArP.sort_old (A := A) (name := name) (by rw [← hsn]; exact hb) (hfq.trans hf)
      rw [e]
      refine (sort_old t S v M h.ok h.low name a n c l hl hn hs (by omega) hb k hf).mono ?_
      rintro r H ⟨rfl, rfl⟩
      exact ⟨A, S, v, M, h, rfl, rfl, rfl⟩
    | none =>
      have e := ArP.sort_new (A := A) (name := name) (by rw [← hsn]; exact hb) (hfq.trans hf)
      rw [e]
      refine (sort_new t S v M h.ok h.low name a n c l hl hn hs (by omega) hb hf).mono ?_
      rintro r H ⟨a2, c2, sa, sc, M2, hle, hr2, rfl, rfl⟩
      refine ⟨_, _, _, M2, ?_, rfl, by rw [hsn], rfl⟩
      have up := h.ok.up hle
      have hmem : ∀ s ∈ (sortPut S ⟨name, a2, n, c2, l⟩).sorts, s ∈ S.sorts ∨ s = ⟨name, a2, n, c2, l⟩ := fun s hs => by
        simp only [sortPut, List.mem_append, List.mem_singleton] at hs; exact hs
      exact { q := by rw [← hq]; simp [sortPut, DagS.q, SortC.q]
              ok := { up with
                sn := by simp [sortPut, sortV, h.ok.sn]
                sorts := fun s hs => (hmem s hs).elim (up.sorts s) (fun e => e ▸ hr2)
                small := ⟨by show v.sn + 1 ≤ 10000; omega, hsm.2⟩ }
              bucks := h.bucks
              bn := h.bn
              low := fun s hs => (hmem s hs).elim (h.low s) (fun e => e ▸ low_of (n := v.sn) (by omega) hb)
              szs := fun s hs => (hmem s hs).elim (h.szs s) (fun e => e ▸ hn)
              szf := h.szf
              szt := fun y hy => ⟨(h.szt y hy).1.up hle, (h.szt y hy).2⟩
              most := h.most }
theorem Fun_w (t : Nat) (A : ArP) (name : ByteArray) (a : Option Addr) (n c : Nat) (l : List Int) (res : Int) (hl : l.length = n) (hn : n ≤ 1000000) (hA : A.funs.length < 1000000) :
    FS Tryd.prog 17 [.pointer (some ⟨t, 0, none⟩), funVal ⟨name, a, n, c, l, res⟩] (rd a n 1 (l.map intCells)) [arena t A]
      (fun r H => r = .tuple #[.int .i64 (A.func ⟨name, l, res⟩).1, .int .i64 (A.func ⟨name, l, res⟩).2.1] ∧ H = [arena t (A.func ⟨name, l, res⟩).2.2]) := FS.onArena fun S v M h => by
  have hsn := h.sn
  have hfn := h.fn
  have hq := h.q
  have hsm := h.ok.small
  cases hb : (l.any (bad v.sn) || bad v.sn res) with
  | true =>
    have e : A.func ⟨name, l, res⟩ = (0, 2, A) := by unfold ArP.func; rw [if_pos (by rw [← hsn]; exact hb)]
    rw [e]
    refine (fun_bad t S v M name a n c l res hl hn hb).mono ?_
    rintro r H ⟨rfl, rfl⟩
    exact ⟨A, S, v, M, h, rfl, rfl, rfl⟩
  | false =>
    have e : A.func ⟨name, l, res⟩ = (((A.funs.length : Nat) : Int), (0 : Int), { A with funs := A.funs ++ [⟨name, l, res⟩] }) := by unfold ArP.func; rw [if_neg (by rw [← hsn]; simpa using hb)]
    rw [e]
    refine (fun_new t S v M name a n c l res hl hn hb (by omega)).mono ?_
    rintro r H ⟨a2, c2, fa, fc, M2, hle, hr2, rfl, rfl⟩
    refine ⟨_, _, _, M2, ?_, rfl, by rw [hfn], rfl⟩
    have up := h.ok.up hle
    have hmem : ∀ s ∈ (funPut S ⟨name, a2, n, c2, l, res⟩).funs, s ∈ S.funs ∨ s = ⟨name, a2, n, c2, l, res⟩ := fun s hs => by
      simp only [funPut, List.mem_append, List.mem_singleton] at hs; exact hs
    exact { q := by rw [← hq]; simp [funPut, DagS.q, FunC.q]
            ok := { up with
              fn := by simp [funPut, funV, h.ok.fn]
              funs := fun s hs => (hmem s hs).elim (up.funs s) (fun e => e ▸ hr2)
              small := ⟨hsm.1, by show v.fn + 1 ≤ 1000000; omega, hsm.2.2⟩ }
            bucks := h.bucks
            bn := h.bn
            low := h.low
            szs := h.szs
            szf := fun s hs => (hmem s hs).elim (h.szf s) (fun e => e ▸ hn)
            szt := fun y hy => ⟨(h.szt y hy).1.up hle, (h.szt y hy).2⟩
            most := h.most }
theorem Term_w (t : Nat) (A : ArP) (x : TermC) (hxl : x.kids.length = x.n) (hn : x.n ≤ 1000000) (hnum : x.num.size ≤ 1000000) :
    FS Tryd.prog 19 [.pointer (some ⟨t, 0, none⟩), termVal x] (rd x.a x.n 1 (x.kids.map intCells)) [arena t A]
      (fun r H => r = .tuple #[.int .i64 (A.term x.q).1, .int .i64 (A.term x.q).2.1] ∧ H = [arena t (A.term x.q).2.2]) := FS.onArena fun S v M h => by
  have hsn := h.sn
  have htn := h.tn
  have hq := h.q
  have hsm := h.ok.small
  have hw : A.wrong x.q = wrongE S x := by rw [← hq]; exact wrong_q S x
  have hnb := nb_le v.tn
  have hng := nb_ge v.tn
  have hbn := h.bn
  refine (term_any t S v M h.ok x hxl hn hnum h.bucks (by omega) (by omega) h.szt).mono ?_
  rintro r H (⟨h1, rfl, rfl⟩ | ⟨h1, m, ⟨⟨y, hy, hs⟩, hb⟩, rfl, rfl⟩ | ⟨h1, hno, hmo, rfl, rfl⟩ | ⟨h1, hno, hmo, a2, c2, M2, q, B, hle, hr2, hB, hqn, rfl, rfl⟩)
  · have e : A.term x.q = (0, A.wrong x.q, A) := by unfold ArP.term; rw [if_pos (by rw [hw]; exact h1)]
    rw [e, hw]
    exact ⟨A, S, v, M, h, rfl, rfl, rfl⟩
  · have hf : findT x.q A.terms = some m := by
      rw [← hq]
      refine findT_first (y := y.q) (by simp [DagS.q, hy]) hs fun j z hj hz => ?_
      simp only [DagS.q, List.getElem?_map] at hz
      cases hz2 : S.terms[j]? with
      | none => rw [hz2] at hz; cases hz
      | some w => rw [hz2] at hz; cases hz; exact hb j w hj hz2
    have e : A.term x.q = (((m : Nat) : Int), (0 : Int), A) := by unfold ArP.term; rw [if_neg (by rw [hw, h1]; simp), hf]
    rw [e]
    exact ⟨A, S, v, M, h, rfl, rfl, rfl⟩
  all_goals
    have hf : findT x.q A.terms = none := by
      rw [← hq]
      refine findT_none fun z hz => ?_
      obtain ⟨w, hw, rfl⟩ := List.mem_map.1 hz
      exact hno w hw
  · have e : A.term x.q = (0, 4, A) := by unfold ArP.term; rw [if_neg (by rw [hw, h1]; simp), hf]; show (if _ then _ else _) = _; rw [if_pos (by rw [← htn, ← hq]; exact hmo)]
    rw [e]
    exact ⟨A, S, v, M, h, rfl, rfl, rfl⟩
  · have e : A.term x.q = (((A.terms.length : Nat) : Int), (0 : Int), A.put x.q) := by unfold ArP.term; rw [if_neg (by rw [hw, h1]; simp), hf]; show (if _ then _ else _) = _; rw [if_neg (by rw [← htn, ← hq]; show ¬ S.most ≤ v.tn; omega)]
    rw [e]
    refine ⟨_, _, _, M2, ?_, rfl, by rw [htn], rfl⟩
    have up := h.ok.up hle
    have hmem : ∀ s ∈ (termPut S { x with a := a2, c := c2 } B).terms, s ∈ S.terms ∨ s = { x with a := a2, c := c2 } := fun s hs => by
      simp only [termPut, List.mem_append, List.mem_singleton] at hs; exact hs
    have hqb : q.bn = nb (v.tn + 1) := by rw [hqn, hbn]; rfl
    have hnb2 := nb_le (v.tn + 1)
    have hmost := h.most
    have htl := h.ok.tn
    exact { q := by
              rw [← hq]
              have e1 : S.q.res x.q = resE S { x with a := a2, c := c2 } := res_q S _
              have e2 : S.q.isC x.q = newC S { x with a := a2, c := c2 } := isC_q S _
              unfold ArP.put
              rw [e1, e2]
              simp [termPut, DagS.q, TermC.q]
            ok := { up with
              tn := by simp [termPut, termV, h.ok.tn]
              on := by simp [termPut, termV, h.ok.on]
              cn := by simp [termPut, termV, h.ok.cn]
              onv := by simp [termV, h.ok.onv]
              cnv := by simp [termV, h.ok.cnv]
              bn := hB.1
              terms := fun s hs => (hmem s hs).elim (up.terms s) (fun e => e ▸ hr2)
              small := ⟨hsm.1, hsm.2.1, by show v.tn + 1 ≤ 1048576; omega, by show q.bn ≤ 10000000; omega⟩ }
            bucks := hB
            bn := hqb
            low := h.low
            szs := h.szs
            szf := h.szf
            szt := fun y hy => (hmem y hy).elim (fun hy => ⟨(h.szt y hy).1.up hle, (h.szt y hy).2⟩) (fun e => e ▸ ⟨hr2, hn, hnum⟩)
            most := ⟨by simp [termPut]; omega, hmost.2⟩ }
/-! ### what only reads -/
theorem Len_w (t : Nat) (A : ArP) : FS Tryd.prog 18 [.pointer (some ⟨t, 0, none⟩)] (arena t A) [] (fun r H => r = .int .i64 A.terms.length ∧ H = []) := FS.ofArena fun S v M h => by
  rw [← h.tn]; exact len_any t S v M
theorem ofAt_q (S : DagS) (k : Int) : ofAt S.q.c k = ofAt S k := rfl
def ArP.ofAt (A : ArP) (k : Int) : Int := Proofs.YtmlnnepgigieaaaDoor.ofAt A.c k
def ArP.consAt (A : ArP) (k : Int) : Bool := Proofs.YtmlnnepgigieaaaDoor.consAt A.c k
theorem Of_w (t : Nat) (A : ArP) (k : Int) : FS Tryd.prog 33 [.pointer (some ⟨t, 0, none⟩), .int .i64 k] (arena t A) [] (fun r H => r = .int .i64 (if bad A.terms.length k then -1 else A.ofAt k) ∧ H = []) := FS.ofArena fun S v M h => by
  have := of_any t S v M h.ok k
  rw [h.tn] at this
  rw [show A.ofAt k = ofAt S k by rw [← h.q]; rfl]
  exact this
theorem Constant_w (t : Nat) (A : ArP) (k : Int) : FS Tryd.prog 34 [.pointer (some ⟨t, 0, none⟩), .int .i64 k] (arena t A) [] (fun r H => r = .bool (!bad A.terms.length k && A.consAt k) ∧ H = []) := FS.ofArena fun S v M h => by
  have := constant_any t S v M h.ok k
  rw [h.tn] at this
  rw [show A.consAt k = consAt S k by rw [← h.q]; rfl]
  exact this
theorem At_bad (t : Nat) (A : ArP) (k : Int) (hb : bad A.terms.length k = true) : FS Tryd.prog 32 [.pointer (some ⟨t, 0, none⟩), .int .i64 k] (arena t A) [] (fun r H => r = .tuple #[termVal ⟨0, 0, none, 0, 0, [], ⟨#[]⟩⟩, .bool false] ∧ H = []) := FS.ofArena fun S v M h => by
  rw [← h.tn] at hb; exact at_bad t S v M k hb
/-- A term in memory of its own. -/
def termRow (y : TermC) : HP := row y.a y.n y.c 3 1 (y.kids.map intCells)
theorem At_ok (t : Nat) (A : ArP) (k : Nat) (x : TermP) (hx : A.terms[k]? = some x) : FS Tryd.prog 32 [.pointer (some ⟨t, 0, none⟩), .int .i64 k] (arena t A) []
    (fun r H => ∃ y : TermC, y.q = x ∧ y.kids.length = y.n ∧ y.n ≤ 1000000 ∧ y.num.size ≤ 1000000 ∧ r = .tuple #[termVal y, .bool true] ∧ H = [termRow y]) := FS.ofArena fun S v M h => by
  rw [← h.q] at hx
  simp only [DagS.q, List.getElem?_map] at hx
  cases hy : S.terms[k]? with
  | none => rw [hy] at hx; cases hx
  | some y =>
    rw [hy] at hx; cases hx
    obtain ⟨h1, h2, h3⟩ := h.szt y (mem_of hy)
    refine (at_ok t S v M h.ok k y hy h2).mono ?_
    rintro r H ⟨a2, c2, rfl, rfl⟩
    exact ⟨{ y with a := a2, c := c2 }, rfl, h1.2.2, h2, h3, rfl, rfl⟩
theorem Sorts_w (t : Nat) (A : ArP) : FS Tryd.prog 27 [.pointer (some ⟨t, 0, none⟩)] (arena t A) []
    (fun r H => ∃ a2 c2, ∃ ss : List SortC, ∃ M2, r = .slice a2 A.sorts.length c2 ∧ ss.map SortC.q = A.sorts ∧ (∀ s ∈ ss, s.Ok M2 ∧ s.n ≤ 1000000) ∧ H = [row a2 A.sorts.length c2 57 2 (ss.map sortCells), imm M2]) := FS.ofArena fun S v M h => by
  rw [← h.sn, ← h.q]; exact sorts_low t S v M h.ok h.szs
theorem Funs_w (t : Nat) (A : ArP) : FS Tryd.prog 29 [.pointer (some ⟨t, 0, none⟩)] (arena t A) []
    (fun r H => ∃ a2 c2, ∃ ss : List FunC, ∃ M2, r = .slice a2 A.funs.length c2 ∧ ss.map FunC.q = A.funs ∧ (∀ s ∈ ss, s.Ok M2 ∧ s.n ≤ 1000000) ∧ H = [row a2 A.funs.length c2 38 3 (ss.map funCells), imm M2]) := FS.ofArena fun S v M h => by
  rw [← h.fn, ← h.q]; exact funs_low t S v M h.ok h.szf
/-- What stands in an arena's buckets. -/
def ArP.bucks (A : ArP) : List (List Int) := (List.range (nb A.terms.length)).map fun i => bucketOf (nb A.terms.length) (A.terms.map fun x => hashT x.c) i
theorem Buckets_w (t : Nat) (A : ArP) : FS Tryd.prog 22 [.pointer (some ⟨t, 0, none⟩)] (arena t A) []
    (fun r H => ∃ a2 c2, ∃ bs : List BuckC, ∃ M2, r = .slice a2 (nb A.terms.length) c2 ∧ bs.map BuckC.l = A.bucks ∧ (∀ b ∈ bs, rowIn M2 b.a b.n b.c b.l) ∧ H = [row a2 (nb A.terms.length) c2 28 1 (bs.map buckCells), imm M2]) := FS.ofArena fun S v M h => by
  have hb : S.bucks.map BuckC.l = A.bucks := by
    have e : A.terms.map (fun x => hashT x.c) = S.terms.map hashT := by rw [← h.q]; simp [DagS.q]; intro a _; rfl
    unfold ArP.bucks
    rw [e, ← h.tn, ← h.bn]
    apply List.ext_getElem?
    intro i
    rw [List.getElem?_map, List.getElem?_map]
    by_cases hi : i < v.bn
    · have hl : i < S.bucks.length := by rw [h.bucks.1]; exact hi
      rw [List.getElem?_eq_getElem hl, List.getElem?_range hi]
      simp only [Option.map_some]
      rw [h.bucks.2 i _ (List.getElem?_eq_getElem hl)]
    · rw [List.getElem?_eq_none (by rw [h.bucks.1]; omega), List.getElem?_eq_none (by simp; omega)]
      rfl
  have hsm := h.ok.small
  rw [← hb, ← h.tn, ← h.bn]
  refine buckets_low t S v M h.ok fun b hb' => ?_
  obtain ⟨i, hi, rfl⟩ := List.getElem_of_mem hb'
  rw [h.bucks.2 i _ (List.getElem?_eq_getElem hi)]
  have := bucketOf_len v.bn (S.terms.map hashT) i
  rw [List.length_map, h.ok.tn] at this
  omega



def clampM (m : Int) : Nat := (min (max m 0) 1048576).toNat
/-- A new arena. -/
def ArP.new (m : Int) : ArP := ⟨clampM m, [⟨⟨#[66, 111, 111, 108]⟩, []⟩, ⟨⟨#[73, 110, 116]⟩, []⟩], [], [], [], []⟩
def ArP.none (m : Int) : ArP := ⟨clampM m, [], [], [], [], []⟩
theorem clampM_eq (m : Int) : ((clampM m : Nat) : Int) = min (max m 0) 1048576 := by unfold clampM; omega
theorem clampM_eq2 (m : Int) : ((clampM m : Nat) : Int) = (if (1048576 : Int) < (if (0 : Int) > m then 0 else m) then 1048576 else (if (0 : Int) > m then 0 else m)) := by rw [clampM_eq]; (repeat' split) <;> omega
theorem new_two (m : Int) : ((((ArP.none m).sort ⟨#[66, 111, 111, 108]⟩ []).2.2).sort ⟨#[73, 110, 116]⟩ []).2.2 = ArP.new m := by
  have e1 : ((ArP.none m).sort ⟨#[66, 111, 111, 108]⟩ []).2.2 = ⟨clampM m, [⟨⟨#[66, 111, 111, 108]⟩, []⟩], [], [], [], []⟩ := by simp [ArP.sort, ArP.none, findP]
  rw [e1]
  simp [ArP.sort, ArP.new, findP]
theorem rd0 (c : Option Addr) (L : List HP) : Ent L (rd c 0 1 (([] : List Int).map intCells)) := fun h _ => rd_nil c 1 h


theorem New_w (m : Int) :
    FS Tryd.prog 15 [.int .i64 m] (tabP) [] (fun q H => ∃ t, q = .pointer (some ⟨t, 0, none⟩) ∧ H = [arena t (ArP.new m)]) := by
  refine FS.intro (N := 16) Tryd.func15 rfl rfl rfl (fun F w0 hF => ?_)
  refine CW.seq ?_
  refine CW.region ?_
  refine OL.q (Y.assign rfl) rfl ?_
  refine OL.nil ?_
  refine EX.seq ?_
  refine CW.seq ?_
  refine CW.region ?_
  refine OL.q (Y.move rfl) rfl ?_
  refine OL.q (Y.maxI rfl rfl) rfl ?_
  refine OL.q (Y.minI rfl rfl) rfl ?_
  refine OL.makeMap Value.string rfl (fun b7 => ⟨rfl, rfl, ?_⟩)
  refine OL.make (l := 16) (c := 16) Tryd.underlying47 E28 rfl rfl rfl rfl (Nat.le_refl _) (by omega) (by omega) rfl (fun b8 => ⟨rfl, rfl, ?_⟩)
  refine OL.q (Y.build B97 rfl rfl) rfl ?_
  refine OL.box rfl rfl rfl (fun b10 => ⟨rfl, rfl, ?_⟩)
  refine OL.q (Y.assign rfl) rfl ?_
  refine OL.nil ?_
  refine EX.seq ?_
  refine CW.seq ?_
  refine CW.read (fun _ : Unit => True) (fun _ => [arena b10 (ArP.none m)]) (fun h hs => ⟨(), trivial, ?_⟩) (fun _ _ => ?_)
  · refine sl.both (A := [_, _, _]) (fun k hk => sl_one ⟨(⟨clampM m, [], [], [], [], [], List.replicate 16 nilB⟩, ⟨none, 0, 0, b7, none, 0, 0, none, 0, 0, none, 0, 0, none, 0, 0, some ⟨b8, 0, none⟩, 16, 16⟩, fun _ => none), ?_, ?_⟩) hs
    · exact { q := rfl, ok := { sn := rfl, fn := rfl, tn := rfl, on := rfl, cn := rfl, onv := rfl, cnv := rfl, bn := (by simp), sorts := (fun _ h => nomatch h), funs := (fun _ h => nomatch h), terms := (fun _ h => nomatch h), small := ⟨Nat.zero_le _, Nat.zero_le _, Nat.zero_le _, (by show 16 ≤ 10000000; omega)⟩ }, bucks := bucks_nil 16, bn := rfl, low := (fun _ h => nomatch h), szs := (fun _ h => nomatch h), szf := (fun _ h => nomatch h), szt := (fun _ h => nomatch h), most := ⟨Nat.zero_le _, by show clampM m ≤ 1048576; unfold clampM; omega⟩ }
    · have h2 := sl_row_nil 57 2 (sl_row_nil 38 3 (sl_row_nil 30 4 (sl_row_nil 3 1 (sl_row_nil 4 1 (sl_nils 16 (immNil_sl hk))))))
      have h3 := sl.picked (l := [_, _, _, _, _, _, _, _, _, _]) (F := []) (is := [9, 0, 7, 1, 2, 3, 4, 8, 5, 6]) rfl h2
      unfold dagR dagL
      dsimp only
      rw [clampM_eq2]
      exact h3
  refine CW.region ?_
  refine OL.q (Y.move rfl) rfl ?_
  refine OL.call [0] (Sort_w b10 (ArP.none m) _ none 0 0 [] rfl (by decide) (by decide) (by simp [ArP.none])) Tryd.call16 rfl rfl rfl rfl (Ent.and (Ent.frame Up.tabP hF) (rd0 _ _)) rfl ?_
  rintro _ _ ⟨rfl, rfl⟩
  refine ⟨rfl, rfl, ?_⟩
  refine OL.nil ?_
  refine EX.seq ?_
  refine CW.seq ?_
  refine CW.region ?_
  refine OL.q (Y.move rfl) rfl ?_
  refine OL.call [0] (Sort_w b10 ((ArP.none m).sort ⟨#[66, 111, 111, 108]⟩ []).2.2 _ none 0 0 [] rfl (by decide) (by decide) (by simp [ArP.sort, ArP.none, findP])) Tryd.call16 rfl rfl rfl rfl (Ent.and (Ent.frame Up.tabP hF) (rd0 _ _)) rfl ?_
  rintro _ _ ⟨rfl, rfl⟩
  refine ⟨rfl, rfl, ?_⟩
  refine OL.nil ?_
  refine EX.seq ?_
  refine CW.seq ?_
  refine CW.region ?_
  refine OL.q (Y.move rfl) rfl ?_
  refine OL.q (Y.assign rfl) rfl ?_
  refine OL.nil ?_
  refine EX.seq ?_
  refine CW.ret ?_
  exact EX.fin1 [0] rfl rfl rfl ⟨b10, rfl, by rw [← new_two]; rfl⟩
end Go.Proofs.YtmlnnepgigieaaaDoor
