/- The document's arena as one chunk; acts on both arenas. -/
import Derived.Test.YtmlnnepgigieaaaDoorDrefE
namespace Go.Proofs.YtmlnnepgigieaaaDoor
open Go.Sx




/-- The document's arena's memory is right: nested rows lie in M. -/
structure RfA (A : ArP) (M : PH) (S : DagS) (v : DagV) : Prop where
  q : S.q = A
  ok : RfOk M S v
  cons : ConsOk S
  bk : S.bucks = []
  most : S.terms.length ≤ S.most ∧ S.most ≤ 1048576
theorem RfA.sn {A : ArP} {S : DagS} {v : DagV} {M : PH} (h : RfA A M S v) : v.sn = A.sorts.length := by rw [← h.ok.sn, ← h.q]; simp [DagS.q]
theorem RfA.fn {A : ArP} {S : DagS} {v : DagV} {M : PH} (h : RfA A M S v) : v.fn = A.funs.length := by rw [← h.ok.fn, ← h.q]; simp [DagS.q]
theorem RfA.tn {A : ArP} {S : DagS} {v : DagV} {M : PH} (h : RfA A M S v) : v.tn = A.terms.length := by rw [← h.ok.tn, ← h.q]; simp [DagS.q]
def rarena (r : Nat) (A : ArP) (M : PH) : HP := fun h => ∃ x : DagS × DagV, RfA A M x.1 x.2 ∧ sl (refL r x.1 x.2) h
theorem Up.rarena (r : Nat) (A : ArP) (M : PH) : Up (rarena r A M) := fun _ _ e ⟨x, h, hs⟩ => ⟨x, h, hs.mono e⟩
theorem FS.onRef {f : FuncId} {args : List Value} {R : HP} {post : Value → List HP → Prop} {r : Nat} {A : ArP} {M : PH}
    (h : ∀ S v, RfA A M S v → FS Tryd.prog f args R (refL r S v) (fun q H => ∃ A' S' v', RfA A' M S' v' ∧ H = refL r S' v' ∧ post q [rarena r A' M])) : FS Tryd.prog f args R [rarena r A M] post :=
  FS.wrap (fun x : DagS × DagV => RfA A M x.1 x.2) (fun x => refL r x.1 x.2) (fun _ q H => ∃ A' S' v', RfA A' M S' v' ∧ H = refL r S' v' ∧ post q [rarena r A' M])
    (fun h hs => by
      obtain ⟨x, hx, hl⟩ := one_sl (Up.rarena r A M) hs
      exact ⟨x, hx, hl⟩)
    (fun x hx => h x.1 x.2 hx)
    (fun _ _ q H ⟨A', S', v', ho, he, hp'⟩ => ⟨[rarena r A' M], fun k hk => sl_one ⟨(S', v'), ho, by rw [he] at hk; exact hk⟩, hp'⟩)
theorem FS.ofRef {f : FuncId} {args : List Value} {pre : List HP} {post : Value → List HP → Prop} {r : Nat} {A : ArP} {M : PH}
    (h : ∀ S v, RfA A M S v → FS Tryd.prog f args (fun h => sl (refL r S v) h ∧ le M h) pre post) : FS Tryd.prog f args (fun h => rarena r A M h ∧ le M h) pre post :=
  FS.opens (fun x : DagS × DagV => RfA A M x.1 x.2) (fun x h => sl (refL r x.1 x.2) h ∧ le M h) (fun _ => Up.and (Up.sl _) (fun _ _ e h => le.trans h e)) (fun _ ⟨⟨x, hx, hl⟩, hm⟩ => ⟨x, hx, hl, hm⟩) (fun x hx => h x.1 x.2 hx)
theorem rSort_w (r : Nat) (A : ArP) (M : PH) (name : ByteArray) (a : Option Addr) (n c : Nat) (l : List Int) (hr : rowIn M a n c l) (hn : n ≤ 1000000) (hA : A.sorts.length < 1000000) :
    FS Tryd.prog 64 [.pointer (some ⟨r, 0, none⟩), .string name, .slice a n c] (imm M) [rarena r A M]
      (fun q H => q = .tuple #[.int .i64 (A.sort name l).1, .int .i64 (A.sort name l).2.1] ∧ H = [rarena r (A.sort name l).2.2 M]) := FS.onRef fun S v h => by
  have hsn := h.sn
  have hq := h.q
  have hfq : findP name l A.sorts = findS name l S.sorts := by rw [← hq]; exact findP_q name l S.sorts
  refine (rsort_low r S v M h.ok name a n c l hr hn (by omega)).mono ?_
  rintro q H (⟨hb, rfl, rfl⟩ | ⟨hb, k, hf, rfl, rfl⟩ | ⟨hb, hf, sa, sc, rfl, rfl⟩)
  · rw [ArP.sort_bad (A := A) (name := name) (by rw [← hsn]; exact hb)]
    exact ⟨A, S, v, h, rfl, rfl, rfl⟩
  · rw [ArP.sort_old (A := A) (name := name) (by rw [← hsn]; exact hb) (hfq.trans hf)]
    exact ⟨A, S, v, h, rfl, rfl, rfl⟩
  · rw [ArP.sort_new (A := A) (name := name) (by rw [← hsn]; exact hb) (hfq.trans hf)]
    refine ⟨_, _, _, ?_, rfl, by rw [hsn], rfl⟩
    have hmem : ∀ s ∈ (sortPut S ⟨name, a, n, c, l⟩).sorts, s ∈ S.sorts ∨ s = ⟨name, a, n, c, l⟩ := fun s hs => by
      simp only [sortPut, List.mem_append, List.mem_singleton] at hs; exact hs
    exact { q := by rw [← hq]; simp [sortPut, DagS.q, SortC.q]
            ok := { h.ok with
              sn := by simp [sortPut, sortV, h.ok.sn]
              sorts := fun s hs => (hmem s hs).elim (h.ok.sorts s) (fun e => e ▸ ⟨hr, hn⟩)
              small := ⟨by show v.sn + 1 ≤ 1000000; omega, h.ok.small.2⟩ }
            cons := h.cons
            bk := h.bk
            most := h.most }
theorem rFun_w (r : Nat) (A : ArP) (M : PH) (name : ByteArray) (a : Option Addr) (n c : Nat) (l : List Int) (res : Int) (hr : rowIn M a n c l) (hn : n ≤ 1000000) (hA : A.funs.length < 1000000) :
    FS Tryd.prog 65 [.pointer (some ⟨r, 0, none⟩), funVal ⟨name, a, n, c, l, res⟩] (imm M) [rarena r A M]
      (fun q H => q = .tuple #[.int .i64 (A.func ⟨name, l, res⟩).1, .int .i64 (A.func ⟨name, l, res⟩).2.1] ∧ H = [rarena r (A.func ⟨name, l, res⟩).2.2 M]) := FS.onRef fun S v h => by
  have hsn := h.sn
  have hfn := h.fn
  have hq := h.q
  refine (rfun_low r S v M h.ok name a n c l res hr hn (by omega)).mono ?_
  rintro q H (⟨hb, rfl, rfl⟩ | ⟨hb, fa, fc, rfl, rfl⟩)
  · have e : A.func ⟨name, l, res⟩ = (0, 2, A) := by unfold ArP.func; rw [if_pos (by rw [← hsn]; exact hb)]
    rw [e]
    exact ⟨A, S, v, h, rfl, rfl, rfl⟩
  · have e : A.func ⟨name, l, res⟩ = (((A.funs.length : Nat) : Int), (0 : Int), { A with funs := A.funs ++ [⟨name, l, res⟩] }) := by unfold ArP.func; rw [if_neg (by rw [← hsn]; simpa using hb)]
    rw [e]
    refine ⟨_, _, _, ?_, rfl, by rw [hfn], rfl⟩
    have hmem : ∀ s ∈ (funPut S ⟨name, a, n, c, l, res⟩).funs, s ∈ S.funs ∨ s = ⟨name, a, n, c, l, res⟩ := fun s hs => by
      simp only [funPut, List.mem_append, List.mem_singleton] at hs; exact hs
    exact { q := by rw [← hq]; simp [funPut, DagS.q, FunC.q]
            ok := { h.ok with
              fn := by simp [funPut, funV, h.ok.fn]
              funs := fun s hs => (hmem s hs).elim (h.ok.funs s) (fun e => e ▸ ⟨hr, hn⟩)
              small := ⟨h.ok.small.1, by show v.fn + 1 ≤ 1000000; omega, h.ok.small.2.2⟩ }
            cons := h.cons
            bk := h.bk
            most := h.most }
theorem wrong_kids {S : DagS} {x : TermC} (h : wrongE S x = 0) : ∀ j ∈ x.kids, bad S.terms.length j = false := by
  have h1 : kidsE S x = 0 := by
    unfold wrongE at h
    split at h
    · rename_i h0; exact absurd h h0
    · split at h
      · rename_i h0; exact absurd h h0
      · rename_i h0; exact Classical.not_not.1 h0
  exact kids_ok h1
theorem consAt_put {S : DagS} {x : TermC} {B : List BuckC} {j : Int} (hl : S.cons.length = S.terms.length) (h0 : 0 ≤ j) (h : j < S.terms.length) : consAt (termPut S x B) j = consAt S j := by
  unfold consAt termPut
  simp only [List.getD_eq_getElem?_getD]
  rw [List.getElem?_append_left (by omega)]
theorem ConsOk_put {S : DagS} {x : TermC} {B : List BuckC} (hC : ConsOk S) (hw : wrongE S x = 0) : ConsOk (termPut S x B) := by
  obtain ⟨hl, hc⟩ := hC
  refine ⟨by simp [termPut, hl], fun k y hy => ?_⟩
  have hlen : (termPut S x B).terms = S.terms ++ [x] := rfl
  rw [hlen] at hy
  by_cases hk : k < S.terms.length
  · rw [List.getElem?_append_left hk] at hy
    obtain ⟨h1, h2⟩ := hc k y hy
    refine ⟨h1, ?_⟩
    rw [consAt_put hl (by omega) (by omega), h2]
    by_cases h18 : x.op = x.op ∧ y.kids.length = 1
    · have hm : y.kids.getD 0 0 ∈ y.kids := by
        rw [List.getD_eq_getElem?_getD, List.getElem?_eq_getElem (by omega)]
        exact List.getElem_mem _
      obtain ⟨h3, h4⟩ := h1 _ hm
      rw [consAt_put hl h3 (by omega)]
    · have : ¬ y.kids.length = 1 := fun e => h18 ⟨rfl, e⟩
      simp [this]
  · have hkl : k < (S.terms ++ [x]).length := (List.getElem?_eq_some_iff.1 hy).1
    simp only [List.length_append, List.length_singleton] at hkl
    have hke : k = S.terms.length := by omega
    subst hke
    simp at hy
    subst hy
    have hb := wrong_kids hw
    refine ⟨fun j hj => bad_false.1 (hb j hj), ?_⟩
    have e1 : consAt (termPut S x B) (S.terms.length : Nat) = newC S x := by
      unfold consAt termPut
      simp [List.getD_eq_getElem?_getD, ← hl]
    rw [e1]
    unfold newC
    by_cases h1 : x.kids.length = 1
    · have hm : x.kids.getD 0 0 ∈ x.kids := by
        rw [List.getD_eq_getElem?_getD, List.getElem?_eq_getElem (by omega)]
        exact List.getElem_mem _
      obtain ⟨h3, h4⟩ := bad_false.1 (hb _ hm)
      rw [consAt_put hl h3 h4]
    · simp [h1]
theorem rTerm_w (r : Nat) (A : ArP) (M : PH) (x : TermC) (hx : x.Ok M) (hn : x.n ≤ 1000000) (hnum : x.num.size ≤ 1000000) :
    FS Tryd.prog 66 [.pointer (some ⟨r, 0, none⟩), termVal x] (imm M) [rarena r A M]
      (fun q H => q = .tuple #[.int .i64 (A.term x.q).1, .int .i64 (A.term x.q).2.1] ∧ H = [rarena r (A.term x.q).2.2 M]) := FS.onRef fun S v h => by
  have htn := h.tn
  have hq := h.q
  have hw : A.wrong x.q = wrongE S x := by rw [← hq]; exact wrong_q S x
  refine (rterm_low r S v M h.ok h.cons x hx hn hnum).mono ?_
  rintro q H (⟨h1, rfl, rfl⟩ | ⟨h1, m, ⟨⟨y, hy, hs⟩, hb⟩, rfl, rfl⟩ | ⟨h1, hno, hmo, rfl, rfl⟩ | ⟨h1, hno, hmo, ta, tc, oa, oc, rfl, rfl⟩)
  · have e : A.term x.q = (0, A.wrong x.q, A) := by unfold ArP.term; rw [if_pos (by rw [hw]; exact h1)]
    rw [e, hw]
    exact ⟨A, S, v, h, rfl, rfl, rfl⟩
  · have hf : findT x.q A.terms = some m := by
      rw [← hq]
      refine findT_first (y := y.q) (by simp [DagS.q, hy]) hs fun j z hj hz => ?_
      simp only [DagS.q, List.getElem?_map] at hz
      cases hz2 : S.terms[j]? with
      | none => rw [hz2] at hz; cases hz
      | some w => rw [hz2] at hz; cases hz; exact hb j w hj hz2
    have e : A.term x.q = (((m : Nat) : Int), (0 : Int), A) := by unfold ArP.term; rw [if_neg (by rw [hw, h1]; simp), hf]
    rw [e]
    exact ⟨A, S, v, h, rfl, rfl, rfl⟩
  all_goals
    have hf : findT x.q A.terms = none := by
      rw [← hq]
      refine findT_none fun z hz => ?_
      obtain ⟨w, hw, rfl⟩ := List.mem_map.1 hz
      exact hno w hw
  · have e : A.term x.q = (0, 4, A) := by unfold ArP.term; rw [if_neg (by rw [hw, h1]; simp), hf]; show (if _ then _ else _) = _; rw [if_pos (by rw [← htn, ← hq]; exact hmo)]
    rw [e]
    exact ⟨A, S, v, h, rfl, rfl, rfl⟩
  · have e : A.term x.q = (((A.terms.length : Nat) : Int), (0 : Int), A.put x.q) := by unfold ArP.term; rw [if_neg (by rw [hw, h1]; simp), hf]; show (if _ then _ else _) = _; rw [if_neg (by rw [← htn, ← hq]; show ¬ S.most ≤ v.tn; omega)]
    rw [e]
    refine ⟨_, _, _, ?_, rfl, by rw [htn], rfl⟩
    have hmem : ∀ s ∈ (termPut S x S.bucks).terms, s ∈ S.terms ∨ s = x := fun s hs => by
      simp only [termPut, List.mem_append, List.mem_singleton] at hs; exact hs
    have hmost := h.most
    have htl := h.ok.tn
    exact { q := by
              rw [← hq]
              have e1 : S.q.res x.q = resE S x := res_q S _
              have e2 : S.q.isC x.q = newC S x := isC_q S _
              unfold ArP.put
              rw [e1, e2]
              simp [termPut, DagS.q]
            ok := { h.ok with
              tn := by simp [termPut, refTV, h.ok.tn]
              on := by simp [termPut, refTV, h.ok.on]
              onv := by simp [refTV, h.ok.onv]
              terms := fun s hs => (hmem s hs).elim (h.ok.terms s) (fun e => e ▸ ⟨hx, hn, hnum⟩)
              small := ⟨h.ok.small.1, h.ok.small.2.1, by show v.tn + 1 ≤ 1048576; omega⟩ }
            cons := ConsOk_put h.cons h1
            bk := h.bk
            most := ⟨by simp [termPut]; omega, hmost.2⟩ }
theorem rConst_w (r : Nat) (A : ArP) (M : PH) (k : Int) : FS Tryd.prog 35 [.pointer (some ⟨r, 0, none⟩), .int .i64 k] (fun h => rarena r A M h ∧ le M h) [] (fun q H => q = .bool (!bad A.terms.length k && A.consAt k) ∧ H = []) := FS.ofRef fun S v h => by
  have htn := h.tn
  cases hb : bad v.tn k with
  | true =>
    refine (rconst_bad r S v M k hb).mono ?_
    rintro q H ⟨rfl, rfl⟩
    exact ⟨by rw [← htn, hb]; rfl, rfl⟩
  | false =>
    obtain ⟨m, rfl, hm⟩ := bad_nat hb
    refine (rconst_any r S v M h.ok h.cons m hm).mono ?_
    rintro q H ⟨rfl, rfl⟩
    exact ⟨by rw [← htn, hb, show A.consAt m = consAt S m by rw [← h.q]; rfl]; rfl, rfl⟩
theorem rNew_w (m : Int) (M : PH) : FS Tryd.prog 63 [.int .i64 m] nothing [] (fun q H => ∃ r, q = .pointer (some ⟨r, 0, none⟩) ∧ H = [rarena r (ArP.new m) M]) :=
  FS.wrap (α := Unit) (fun _ => True) (fun _ => []) (fun _ q H => ∃ r sa sn sc, q = .pointer (some ⟨r, 0, none⟩) ∧ sn = 2 ∧ H = refL r (refS0 (clampM m)) ⟨sa, sn, sc, 0, none, 0, 0, none, 0, 0, none, 0, 0, none, 0, 0, none, 0, 0⟩) (fun _ _ => ⟨(), trivial, trivial⟩)
    (fun _ _ => fun F w hR hs => (rnew_low m F w hR hs).mono fun en w' ⟨v, H, he, ⟨r, sa, sn, sc, h1, h2⟩, hst, hh⟩ => by
      subst h2
      have hsn : sn = 2 := by
        obtain ⟨_, _, _, _, _, hq, _⟩ := hh.take (i := 1) rfl
        have := hq.1
        simp [refS0] at this
        exact this.symm
      exact ⟨v, _, he, ⟨r, sa, sn, sc, h1, hsn, rfl⟩, hst, hh⟩)
    (fun _ _ q H ⟨r, sa, sn, sc, h1, h2, h3⟩ => ⟨[rarena r (ArP.new m) M], fun k hk => by
      subst h2 h3
      refine sl_one ⟨(refS0 (clampM m), _), ?_, hk⟩
      exact { q := rfl
              ok := { sn := rfl, fn := rfl, tn := rfl, on := rfl, onv := rfl, sorts := fun s hs => by
                        simp only [refS0, List.mem_cons, List.not_mem_nil, or_false] at hs
                        rcases hs with rfl | rfl <;> exact ⟨⟨rd_nil _ _ _, Nat.le_refl _, rfl⟩, Nat.zero_le _⟩
                      funs := (fun _ h => nomatch h), terms := (fun _ h => nomatch h), small := ⟨(by show 2 ≤ 1000000; omega), Nat.zero_le _, Nat.zero_le _⟩ }
              cons := ⟨rfl, fun k x h => by simp [refS0] at h⟩
              bk := rfl
              most := ⟨Nat.zero_le _, by show clampM m ≤ 1048576; unfold clampM; omega⟩ }, r, h1, rfl⟩)
theorem rBuckets_w (r : Nat) (A : ArP) (M : PH) : FS Tryd.prog 23 [.pointer (some ⟨r, 0, none⟩)] (fun h => rarena r A M h ∧ le M h) []
    (fun q H => ∃ a2 c2, ∃ B : List BuckC, q = .slice a2 (nb A.terms.length) c2 ∧ B.map BuckC.l = A.bucks ∧ H = [row a2 (nb A.terms.length) c2 28 1 (B.map buckCells), star (B.map buckRow)]) := FS.ofRef fun S v h => by
  rw [← h.tn]
  refine (rbuckets_low r S v M h.ok).mono ?_
  rintro q H ⟨a2, c2, B, rfl, hB, rfl⟩
  refine ⟨a2, c2, B, rfl, ?_, rfl⟩
  have e : A.terms.map (fun x => hashT x.c) = S.terms.map hashT := by rw [← h.q]; simp [DagS.q]; intro a _; rfl
  unfold ArP.bucks
  rw [e, ← h.tn]
  apply List.ext_getElem?
  intro i
  rw [List.getElem?_map, List.getElem?_map]
  by_cases hi : i < nb v.tn
  · have hl : i < B.length := by rw [hB.1]; exact hi
    rw [List.getElem?_eq_getElem hl, List.getElem?_range hi]
    simp only [Option.map_some]
    rw [hB.2 i _ (List.getElem?_eq_getElem hl)]
  · rw [List.getElem?_eq_none (by rw [hB.1]; omega), List.getElem?_eq_none (by simp; omega)]
    rfl
/-! ### acts -/
structure ActC where
  what : Int
  name : ByteArray
  a : Option Addr
  n : Nat
  c : Nat
  args : List Int
  result : Int
  term : TermC
def actCells (x : ActC) : List Value := [.int .i64 x.what, .string x.name, .slice x.a x.n x.c, .int .i64 x.result, .int .i64 x.term.op, .int .i64 x.term.fn, .slice x.term.a x.term.n x.term.c, .string x.term.num]
def ActC.Ok (M : PH) (x : ActC) : Prop := rowIn M x.a x.n x.c x.args ∧ x.term.Ok M
structure ActP where
  what : Int
  name : ByteArray
  args : List Int
  result : Int
  term : TermP
def ActC.q (x : ActC) : ActP := ⟨x.what, x.name, x.args, x.result, x.term.q⟩
def ActP.great (x : ActP) : Bool := decide (60 < x.name.size) || decide (12 < x.args.length) || decide (12 < x.term.kids.length) || decide (60 < x.term.num.size)
def greatP (l : List ActP) : Bool := decide (80 < l.length) || l.any ActP.great
def ArP.act (A : ArP) (x : ActP) : ArP := if x.what = 0 then (A.sort x.name x.args).2.2 else if x.what = 1 then (A.func ⟨x.name, x.args, x.result⟩).2.2 else (A.term x.term).2.2
def laid (m : Int) (l : List ActP) : ArP := l.foldl ArP.act (ArP.new m)
theorem laid_snoc (m : Int) (l : List ActP) (x : ActP) : laid m (l ++ [x]) = (laid m l).act x := by simp [laid]
theorem sort_bd (A : ArP) (name : ByteArray) (l : List Int) : (A.sort name l).2.2.sorts.length ≤ A.sorts.length + 1 ∧ (A.sort name l).2.2.funs.length = A.funs.length := by
  unfold ArP.sort
  split
  · exact ⟨Nat.le_succ _, rfl⟩
  · split
    · exact ⟨Nat.le_succ _, rfl⟩
    · exact ⟨by simp, rfl⟩
theorem func_bd (A : ArP) (f : FunP) : (A.func f).2.2.sorts.length = A.sorts.length ∧ (A.func f).2.2.funs.length ≤ A.funs.length + 1 := by
  unfold ArP.func
  split
  · exact ⟨rfl, Nat.le_succ _⟩
  · exact ⟨rfl, by simp⟩
theorem term_bd (A : ArP) (x : TermP) : (A.term x).2.2.sorts.length = A.sorts.length ∧ (A.term x).2.2.funs.length = A.funs.length := by
  unfold ArP.term
  split
  · exact ⟨rfl, rfl⟩
  · split
    · exact ⟨rfl, rfl⟩
    · split
      · exact ⟨rfl, rfl⟩
      · exact ⟨rfl, rfl⟩
theorem act_bd (A : ArP) (x : ActP) : (A.act x).sorts.length ≤ A.sorts.length + 1 ∧ (A.act x).funs.length ≤ A.funs.length + 1 := by
  unfold ArP.act
  split
  · have := sort_bd A x.name x.args; omega
  · split
    · have := func_bd A ⟨x.name, x.args, x.result⟩; omega
    · have := term_bd A x.term; omega
theorem laid_bd (m : Int) (l : List ActP) : (laid m l).sorts.length ≤ 2 + l.length ∧ (laid m l).funs.length ≤ l.length := by
  have key : ∀ (l : List ActP) (A : ArP), (l.foldl ArP.act A).sorts.length ≤ A.sorts.length + l.length ∧ (l.foldl ArP.act A).funs.length ≤ A.funs.length + l.length := by
    intro l
    induction l with
    | nil => exact fun A => ⟨by simp, by simp⟩
    | cons x l ih =>
      intro A
      have h1 := ih (A.act x)
      have h2 := act_bd A x
      simp only [List.foldl_cons, List.length_cons]
      omega
  have := key l (ArP.new m)
  simp only [ArP.new, List.length_cons, List.length_nil] at this
  exact ⟨by unfold laid; simp only [ArP.new]; omega, by unfold laid; simp only [ArP.new]; omega⟩

end Go.Proofs.YtmlnnepgigieaaaDoor
