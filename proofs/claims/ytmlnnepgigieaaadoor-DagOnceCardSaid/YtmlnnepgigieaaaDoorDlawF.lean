/- What holds of every arena: its terms are right, each once; a term that is added again is where it was. -/
import Derived.Test.YtmlnnepgigieaaaDoorDlawD
namespace Go.Proofs.YtmlnnepgigieaaaDoor
open Go.Sx




theorem errs_of {S : DagS} {x : TermC} (h : wrongE S x = 0) : headE S.funs.length x = 0 ∧ kidsE S x = 0 ∧ countE S x = 0 ∧ sortE S x = 0 ∧ prodE S x = 0 := by
  unfold wrongE at h
  split at h
  · rename_i h0; exact absurd h h0
  · rename_i h0
    split at h
    · rename_i h1; exact absurd h h1
    · rename_i h1
      split at h
      · rename_i h2; exact absurd h h2
      · rename_i h2
        split at h
        · rename_i h3; exact absurd h h3
        · rename_i h3
          exact ⟨Classical.not_not.1 h0, Classical.not_not.1 h1, Classical.not_not.1 h2, Classical.not_not.1 h3, h⟩
theorem bad_mono {n m : Nat} {k : Int} (h : n ≤ m) (hb : bad n k = false) : bad m k = false := by
  obtain ⟨h1, h2⟩ := bad_false.1 hb
  exact bad_false.2 ⟨h1, by omega⟩
theorem head_mono {n m : Nat} {x : TermC} (hnm : n ≤ m) (h : headE n x = 0) : headE m x = 0 := by
  unfold headE at h ⊢
  split at h
  · cases h
  · rename_i h1
    split at h
    · cases h
    · rename_i h2
      split at h
      · cases h
      · rename_i h3
        rw [if_neg h1, if_neg h2, if_neg h3]
        split at h
        · cases h
        · rename_i h4
          rw [if_neg]
          rintro ⟨h5, h6⟩
          cases hb : bad n x.fn with
          | true => exact h4 ⟨h5, hb⟩
          | false => rw [bad_mono hnm hb] at h6; cases h6
theorem right_free {op : Int} {n a b : Nat} (h : op ≠ 3) : rightB op n a = rightB op n b := by
  unfold rightB
  simp only [h, if_false]
theorem getD_pre {α : Type _} {l m : List α} {k : Nat} {d : α} (h : k < l.length) : (l ++ m).getD k d = l.getD k d := by
  simp only [List.getD_eq_getElem?_getD, List.getElem?_append_left h]
theorem getD_in {l : List Int} {k : Nat} (h : k < l.length) : l.getD k 0 ∈ l := by
  rw [List.getD_eq_getElem?_getD, List.getElem?_eq_getElem h]
  exact List.getElem_mem h
/-- What was right is right in an arena that holds more. -/
theorem wrongE_grow {S S' : DagS} {x : TermC} {f : List FunC} {o : List Int} {c : List Bool} (hf : S'.funs = S.funs ++ f) (ht : S.terms.length ≤ S'.terms.length) (ho : S'.of = S.of ++ o) (hc : S'.cons = S.cons ++ c)
    (hol : S.of.length = S.terms.length) (hcl : S.cons.length = S.terms.length) (h : wrongE S x = 0) : wrongE S' x = 0 := by
  obtain ⟨h0, h1, h2, h3, h4⟩ := errs_of h
  have hb := kids_ok h1
  have hofs : ∀ k : Int, bad S.terms.length k = false → ofAt S' k = ofAt S k := fun k hk => by
    obtain ⟨m, rfl, hm⟩ := bad_nat hk
    unfold ofAt
    rw [ho]
    exact getD_pre (by simpa [hol] using hm)
  have hcs : ∀ k : Int, bad S.terms.length k = false → consAt S' k = consAt S k := fun k hk => by
    obtain ⟨m, rfl, hm⟩ := bad_nat hk
    unfold consAt
    rw [hc]
    exact getD_pre (by simpa [hcl] using hm)
  have hfa : x.op = 3 → funAt S' x.fn = funAt S x.fn := fun h9 => by
    obtain ⟨m, hm, hml⟩ := bad_nat (head_fn h0 h9)
    rw [hm]
    unfold funAt
    rw [hf]
    exact getD_pre (by simpa using hml)
  have hr : rightB x.op x.kids.length (funAt S x.fn).args.length = true := by
    unfold countE at h2
    split at h2
    · assumption
    · cases h2
  have e0 : headE S'.funs.length x = 0 := head_mono (by rw [hf]; simp) h0
  have e1 : kidsE S' x = 0 := by
    unfold kidsE
    rw [if_neg]
    rw [Bool.not_eq_true, List.any_eq_false]
    intro k hk
    rw [Bool.not_eq_true]
    exact bad_mono ht (hb k hk)
  have e2 : countE S' x = 0 := by
    unfold countE
    by_cases h9 : x.op = 3
    · rw [hfa h9, hr]; rfl
    · rw [right_free (b := (funAt S x.fn).args.length) h9, hr]; rfl
  have hw : ∀ i, i < x.kids.length → wantE S' x i = wantE S x i := fun i hi => by
    unfold wantE
    by_cases h9 : x.op = 3
    · rw [if_pos h9, if_pos h9, hfa h9]
    · rw [if_neg h9, if_neg h9]
      split
      · rfl
      · split
        · rename_i h10
          split
          · rfl
          · rw [h10] at hr
            have := right_ite hr
            rw [hofs _ (hb _ (getD_in (by omega)))]
        · split
          · rw [hofs _ (hb _ (getD_in (by omega)))]
          · rfl
  have e3 : sortE S' x = 0 := by
    unfold sortE at h3 ⊢
    split at h3
    · rename_i h9
      rw [if_pos]
      rw [List.all_eq_true] at h9 ⊢
      intro i hi
      have hil := List.mem_range.1 hi
      have h10 := h9 i hi
      rw [hw i hil, hofs _ (hb _ (getD_in hil))]
      exact h10
    · cases h3
  have e4 : prodE S' x = 0 := by
    unfold prodE at h4 ⊢
    have : freeK S' x.kids = freeK S x.kids := by
      unfold freeK
      congr 1
      exact List.filter_congr fun k hk => by rw [hcs k (hb k hk)]
    rw [this]; exact h4
  unfold wrongE
  rw [e0, e1, e2, e3, e4]
  rfl
/-- What holds of every arena. -/
structure ArP.Good (A : ArP) : Prop where
  ofl : A.of.length = A.terms.length
  consl : A.cons.length = A.terms.length
  right : ∀ x ∈ A.terms, A.wrong x = 0
  once : ∀ (i j : Nat) (x y : TermP), i < j → A.terms[i]? = some x → A.terms[j]? = some y → sameP x y = false
  kids : ∀ (k : Nat) (x : TermP), A.terms[k]? = some x → ∀ j ∈ x.kids, 0 ≤ j ∧ j < (k : Int)
theorem wrong_kidsP {A : ArP} {x : TermP} (h : A.wrong x = 0) : ∀ j ∈ x.kids, 0 ≤ j ∧ j < (A.terms.length : Int) := fun j hj => by
  have h9 := wrong_kids (S := A.c) (x := x.c) h j hj
  have h10 := bad_false.1 h9
  simpa [ArP.c] using h10
theorem ArP.Good.again {A : ArP} (h : A.Good) {k : Nat} {x : TermP} (hx : A.terms[k]? = some x) : A.term x = (((k : Nat) : Int), (0 : Int), A) := by
  have hf : findT x A.terms = some k := findT_first hx (sameP_iff.2 rfl) fun j z hj hz => h.once j k z x hj hz hx
  unfold ArP.term
  rw [if_neg (by rw [h.right x (mem_of hx)]; simp), hf]
theorem ArP.Good.func {A : ArP} (h : A.Good) (f : FunP) : (A.func f).2.2.Good := by
  have e : (A.func f).2.2 = A ∨ (A.func f).2.2 = { A with funs := A.funs ++ [f] } := by
    unfold ArP.func
    split
    · exact .inl rfl
    · exact .inr rfl
  rcases e with e | e
  · rw [e]; exact h
  · rw [e]
    exact { ofl := h.ofl, consl := h.consl, once := h.once, kids := h.kids, right := fun x hx => wrongE_grow (S := A.c) (S' := ArP.c { A with funs := A.funs ++ [f] }) (f := [f.c]) (o := []) (c := []) (by simp [ArP.c]) (Nat.le_refl _) (by simp [ArP.c]) (by simp [ArP.c]) (by simpa [ArP.c] using h.ofl) (by simpa [ArP.c] using h.consl) (h.right x hx) }
theorem ArP.Good.sort {A : ArP} (h : A.Good) (name : ByteArray) (l : List Int) : (A.sort name l).2.2.Good := by
  have e : (A.sort name l).2.2 = A ∨ ∃ s, (A.sort name l).2.2 = { A with sorts := A.sorts ++ [s] } := by
    cases hb : l.any (bad A.sorts.length) with
    | true => rw [ArP.sort_bad hb]; exact .inl rfl
    | false =>
      cases hf : findP name l A.sorts with
      | some k => rw [ArP.sort_old hb hf]; exact .inl rfl
      | none => rw [ArP.sort_new hb hf]; exact .inr ⟨_, rfl⟩
  rcases e with e | ⟨s, e⟩
  · rw [e]; exact h
  · rw [e]
    exact { ofl := h.ofl, consl := h.consl, once := h.once, kids := h.kids, right := fun x hx => wrongE_grow (S := A.c) (S' := ArP.c { A with sorts := A.sorts ++ [s] }) (f := []) (o := []) (c := []) (by simp [ArP.c]) (Nat.le_refl _) (by simp [ArP.c]) (by simp [ArP.c]) (by simpa [ArP.c] using h.ofl) (by simpa [ArP.c] using h.consl) (h.right x hx) }
theorem findT_not {x : TermP} : ∀ {l : List TermP}, findT x l = none → ∀ z ∈ l, sameP z x = false
  | [], _, _, h => nomatch h
  | y :: l, h, z, hz => by
    simp only [findT] at h
    split at h
    · cases h
    · rename_i hy
      simp only [Option.map_eq_none_iff] at h
      rcases List.mem_cons.1 hz with rfl | hz
      · simpa using hy
      · exact findT_not h z hz
theorem ArP.put_right {A : ArP} (h : A.Good) {x y : TermP} (hy : A.wrong y = 0) : (A.put x).wrong y = 0 :=
  wrongE_grow (S := A.c) (S' := (A.put x).c) (f := []) (o := [A.res x]) (c := [A.isC x]) (by simp [ArP.c, ArP.put]) (by simp [ArP.c, ArP.put]) (by simp [ArP.c, ArP.put]) (by simp [ArP.c, ArP.put]) (by simpa [ArP.c] using h.ofl) (by simpa [ArP.c] using h.consl) hy
theorem ArP.Good.put {A : ArP} (h : A.Good) {x : TermP} (hw : A.wrong x = 0) (hf : findT x A.terms = Option.none) : (A.put x).Good where
  ofl := by simp [ArP.put, h.ofl]
  consl := by simp [ArP.put, h.consl]
  right := fun y hy => by
    simp only [ArP.put, List.mem_append, List.mem_singleton] at hy
    rcases hy with hy | rfl
    · exact ArP.put_right h (h.right y hy)
    · exact ArP.put_right h hw
  once := fun i j y z hij hi hj => by
    simp only [ArP.put] at hi hj
    have hjl := (List.getElem?_eq_some_iff.1 hj).1
    simp only [List.length_append, List.length_singleton] at hjl
    rw [List.getElem?_append_left (by omega)] at hi
    by_cases e : j < A.terms.length
    · rw [List.getElem?_append_left e] at hj
      exact h.once i j y z hij hi hj
    · have : j = A.terms.length := by omega
      subst this
      simp at hj
      subst hj
      exact findT_not hf y (mem_of hi)
  kids := fun k y hk j hj => by
    simp only [ArP.put] at hk
    have hkl := (List.getElem?_eq_some_iff.1 hk).1
    simp only [List.length_append, List.length_singleton] at hkl
    by_cases e : k < A.terms.length
    · rw [List.getElem?_append_left e] at hk
      exact h.kids k y hk j hj
    · have : k = A.terms.length := by omega
      subst this
      simp at hk
      subst hk
      exact wrong_kidsP hw j hj
/-- What comes of a term that is added. -/
theorem term_ok {A : ArP} {x : TermP} (h : (A.term x).2.1 = 0) : A.wrong x = 0 ∧ ∃ k : Nat, (A.term x).1 = k ∧ ((k < A.terms.length ∧ A.terms[k]? = some x ∧ (A.term x).2.2 = A) ∨ (k = A.terms.length ∧ findT x A.terms = none ∧ (A.term x).2.2 = A.put x)) := by
  unfold ArP.term at h ⊢
  by_cases hw : A.wrong x ≠ 0
  · rw [if_pos hw] at h; exact absurd h hw
  · rw [if_neg hw] at h ⊢
    refine ⟨Classical.not_not.1 hw, ?_⟩
    cases hf : findT x A.terms with
    | some m =>
      have h9 := (findT_some hf).1
      exact ⟨m, rfl, .inl ⟨(List.getElem?_eq_some_iff.1 h9).1, h9, rfl⟩⟩
    | none =>
      simp only [hf] at h ⊢
      split at h
      · cases h
      · rename_i hm
        rw [if_neg hm]
        exact ⟨_, rfl, .inr ⟨rfl, trivial, rfl⟩⟩
theorem ArP.Good.term {A : ArP} (h : A.Good) (x : TermP) : (A.term x).2.2.Good := by
  by_cases he : (A.term x).2.1 = 0
  · obtain ⟨hw, k, _, ⟨_, _, e⟩ | ⟨_, hf, e⟩⟩ := term_ok he
    · rw [e]; exact h
    · rw [e]; exact h.put hw hf
  · rw [term_err he]; exact h
theorem ArP.Good.act {A : ArP} (h : A.Good) (x : ActP) : (A.act x).Good := by
  unfold ArP.act
  split
  · exact h.sort _ _
  · split
    · exact h.func _
    · exact h.term _
theorem new_good (m : Int) : (ArP.new m).Good where
  ofl := rfl
  consl := rfl
  right := fun _ h => nomatch h
  once := fun i j x y _ h _ => by simp [ArP.new] at h
  kids := fun k x h => by simp [ArP.new] at h
theorem laid_good (m : Int) (l : List ActP) : (laid m l).Good := by
  have key : ∀ (l : List ActP) (A : ArP), A.Good → (l.foldl ArP.act A).Good := by
    intro l
    induction l with
    | nil => exact fun A h => h
    | cons x l ih => exact fun A h => ih (A.act x) (h.act x)
  exact key l _ (new_good m)
/-! terms by their places -/
def tml : Nat → List TermC → List (Int × Value)
  | _, [] => []
  | k, y :: l => ((k : Int), termVal y) :: tml (k + 1) l
theorem tml_len : ∀ (l : List TermC) (k : Nat), (tml k l).length = l.length
  | [], _ => rfl
  | y :: l, k => by simp [tml, tml_len l]
theorem tml_assoc : ∀ (l : List TermC) (k j : Nat), assoc ((k + j : Nat) : Int) (tml k l) = (l[j]?).map termVal
  | [], _, _ => by simp [tml, assoc]
  | y :: l, k, 0 => by simp [tml, assoc]
  | y :: l, k, j + 1 => by
    have h1 : ¬ ((k + (j + 1) : Nat) : Int) = (k : Int) := by omega
    simp only [tml, assoc, h1, if_false, List.getElem?_cons_succ]
    rw [← tml_assoc l (k + 1) j]
    congr 1
    omega
theorem tml_put : ∀ (l : List TermC) (k j : Nat) (x : TermC), j < l.length → putKey ((k + j : Nat) : Int) (termVal x) (tml k l) = tml k (l.set j x)
  | [], _, _, _, h => by simp at h
  | y :: l, k, 0, x, _ => by simp [tml, putKey]
  | y :: l, k, j + 1, x, h => by
    have h1 : ¬ ((k + (j + 1) : Nat) : Int) = (k : Int) := by omega
    simp only [tml, putKey, h1, if_false, List.set_cons_succ]
    rw [← tml_put l (k + 1) j x (by simpa using h)]
    congr 3
    omega
theorem tml_new : ∀ (l : List TermC) (k : Nat) (x : TermC), putKey ((k + l.length : Nat) : Int) (termVal x) (tml k l) = tml k (l ++ [x])
  | [], k, x => by simp [tml, putKey]
  | y :: l, k, x => by
    have h1 : ¬ ((k + (l.length + 1) : Nat) : Int) = (k : Int) := by omega
    simp only [tml, putKey, List.length_cons, h1, if_false, List.cons_append]
    rw [← tml_new l (k + 1) x]
    congr 3
    omega
theorem tml_mem : ∀ {l : List TermC} {k : Nat} {p : Int × Value}, p ∈ tml k l → ∃ (j : Nat) (y : TermC), l[j]? = some y ∧ p = (((k + j : Nat) : Int), termVal y)
  | y :: l, k, p, h => by
    simp only [tml, List.mem_cons] at h
    rcases h with rfl | h
    · exact ⟨0, y, rfl, rfl⟩
    · obtain ⟨j, z, h1, h2⟩ := tml_mem h
      exact ⟨j + 1, z, by simpa using h1, by rw [h2]; congr 2; omega⟩

end Go.Proofs.YtmlnnepgigieaaaDoor
