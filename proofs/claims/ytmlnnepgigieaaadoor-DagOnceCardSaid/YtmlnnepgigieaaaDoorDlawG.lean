/- The statement DagOnce. -/
import Derived.Test.YtmlnnepgigieaaaDoorDlawF
import Derived.Test.YtmlnnepgigieaaaDoorIter
namespace Go.Proofs.YtmlnnepgigieaaaDoor
open Go.Sx

theorem E32 : Elt Tryd.prog 32 8 112 [.int .i64 0, .string ⟨#[]⟩, .slice none 0 0, .int .i64 0, .int .i64 0, .int .i64 0, .slice none 0 0, .string ⟨#[]⟩] := ⟨⟨Tryd.t32, by kernel_rfl, rfl, rfl, _, rfl, rfl⟩, rfl, by decide⟩


def zT : TermC := ⟨0, 0, none, 0, 0, [], { data := #[] }⟩
def putT (l : List TermC) (k : Nat) (x : TermC) : List TermC := if k < l.length then l.set k x else l ++ [x]
theorem tml_putT {l : List TermC} {k : Nat} {x : TermC} (h : k ≤ l.length) : putKey (k : Int) (termVal x) (tml 0 l) = tml 0 (putT l k x) := by
  unfold putT
  split
  · rename_i h1
    simpa using tml_put l 0 k x h1
  · have : k = l.length := by omega
    subst this
    simpa using tml_new l 0 x
theorem putT_all {p : TermC → Prop} {l : List TermC} {k : Nat} {x : TermC} (hl : ∀ y ∈ l, p y) (hx : p x) : ∀ y ∈ putT l k x, p y := fun y hy => by
  unfold putT at hy
  split at hy
  · rcases List.mem_or_eq_of_mem_set hy with h | h
    · exact hl y h
    · rw [h]; exact hx
  · rcases List.mem_append.1 hy with h | h
    · exact hl y h
    · rw [List.mem_singleton.1 h]; exact hx
theorem mem_tml0 {l : List TermC} {p : Int × Value} (h : p ∈ tml 0 l) : ∃ (j : Nat) (y : TermC), l[j]? = some y ∧ p = ((j : Int), termVal y) := by
  obtain ⟨j, y, h1, h2⟩ := tml_mem h
  exact ⟨j, y, h1, by simpa using h2⟩
theorem set_self {α : Type _} : ∀ {l : List α} {k : Nat} {x : α}, l[k]? = some x → l.set k x = l
  | [], _, _, h => by simp at h
  | y :: l, 0, x, h => by simp at h; simp [h]
  | y :: l, k + 1, x, h => by simp at h; simp [set_self h]
/-- What comes of a term that is added to a good arena, its terms kept by their places. -/
theorem term_got {A : ArP} (hG : A.Good) {ys : List TermC} (hys : ys.map TermC.q = A.terms) {x : TermC} (h : (A.term x.q).2.1 = 0) :
    ∃ m : Nat, (A.term x.q).1 = m ∧ m ≤ ys.length ∧ (∀ z ∈ x.kids, z < (m : Int)) ∧ (putT ys m x).map TermC.q = (A.term x.q).2.2.terms ∧ ((A.term x.q).2.2.terms.length : Int) = max (A.terms.length : Int) ((m : Int) + 1)
      ∧ (∀ y, ys[m]? = some y → y.q = x.q) ∧ (putT ys m x).length ≤ ys.length + 1 := by
  have hl : ys.length = A.terms.length := by rw [← hys]; simp
  obtain ⟨hw, m, hm, ⟨h1, h2, h3⟩ | ⟨h1, h2, h3⟩⟩ := term_ok h
  · have h4 : (putT ys m x) = ys.set m x := if_pos (by omega)
    refine ⟨m, hm, by omega, fun z hz => (hG.kids m x.q h2 z hz).2, ?_, by rw [h3]; omega, fun y hy => ?_, by rw [h4]; simp⟩
    · rw [h3, h4, List.map_set, hys]
      exact set_self h2
    · have h5 := mget TermC.q hy
      rw [hys, h2] at h5
      exact (Option.some.inj h5).symm
  · have h4 : (putT ys m x) = ys ++ [x] := if_neg (by omega)
    refine ⟨m, hm, by omega, fun z hz => by rw [h1]; exact (wrong_kidsP hw z hz).2, ?_, ?_, fun y hy => ?_, by rw [h4]; simp⟩
    · rw [h3, h4, List.map_append, hys]; rfl
    · rw [h3]; simp [ArP.put]; omega
    · have := (List.getElem?_eq_some_iff.1 hy).1
      omega
def nextA (p : Option (Int × Value)) : List Value := match p with
  | none => [.bool false]
  | some p => [.bool true, .int .i64 p.1, p.2]
theorem nextA_ok (p : Option (Int × Value)) : nth (nextA p) 0 = some (.bool p.isSome) := by cases p <;> rfl
section
variable {cx : Cx} {rx : Rx} {rest : List (Bool × Oper)} {e : Env} {H HH : List HP} {ty : TypeId} {pos : String} {af : Array Edge} {P : Program} {g : Option (Nat × Bool)}
theorem OL.nextU {b r k d : Nat} {x : Operand} {l : List (Int × Value)} {last : Option (Int × Value)} (i : Nat) (hi : nth H i = some (iterc (Value.int .i64) b r l k last)) (hx : ev e x = some (.pointer (some ⟨r, 0, none⟩))) (hd : Nat.blt d cx.N = true)
    (h : ∀ (p : Option (Int × Value)) (k' : Nat) (last' : Option (Int × Value)), (∀ q, p = some q → q ∈ l ∧ k' < k ∧ last' = some q) → Nx cx rx rest ((d, .tuple (nextA p).toArray) :: e) (H.set i (iterc (Value.int .i64) b r l k' last'))) : OL cx rx ((false, ⟨some d, .next x false, ty, pos, af, none⟩) :: rest) e H := by
  refine OL.next i hi hx hd ?_ ?_
  · have h1 := h none k last (fun _ h => nomatch h)
    have h2 : H.set i (iterc (Value.int .i64) b r l k last) = H := set_self (by rw [nth_eq] at hi; exact hi)
    rw [h2] at h1
    exact h1
  · intro p hp k' hk
    exact h (some p) k' (some p) (fun q hq => by cases hq; exact ⟨hp, hk, rfl⟩)
theorem EX.iterMap {x : Exit} {Q : Exit → Act → World → Prop} {b r k : Nat} {l : List (Int × Value)} {last : Option (Int × Value)} (i : Nat) (hi : nth H i = some (iterc (Value.int .i64) b r l k last)) (h : EX cx x Q e (H.set i (mapc (Value.int .i64) b l))) : EX cx x Q e H :=
  fun a w hs => h a w (hs.heapMono (sl_set_mono hi hs.heap iter_map))
theorem Y.termAt {t kt el b d m : Nat} {x y : Operand} {K : Int} {ys : List TermC} (i : Nat) (hi : nth HH i = some (mapc (Value.int .i64) b (tml 0 ys))) (ht : P.underlying t = some (.map kt el)) (hK : KeyT P kt (Value.int .i64)) (hz : ∀ w, (zeroValue el).run P w = .ok (termVal zT) w)
    (hx : ev e x = some (.map (some b))) (hy : ev e y = some (.int .i64 K)) (hm : K = m) : Yv P HH e ⟨some d, .lookup t x y true, ty, pos, af, g⟩ (.tuple #[termVal (ys.getD m zT), .bool (decide (m < ys.length))]) := by
  have h1 := Y.lookup2 (k := K) (d := d) (ty := ty) (pos := pos) (af := af) (g := g) i hi ht hK hz hx hy
  have e1 : assoc K (tml 0 ys) = (ys[m]?).map termVal := by have := tml_assoc ys 0 m; rw [hm]; simpa using this
  rw [e1] at h1
  by_cases hl : m < ys.length
  · rw [List.getElem?_eq_getElem hl] at h1
    rw [decide_eq_true hl, List.getD_eq_getElem?_getD, List.getElem?_eq_getElem hl]
    exact h1
  · rw [List.getElem?_eq_none (by omega)] at h1
    rw [decide_eq_false hl, List.getD_eq_getElem?_getD, List.getElem?_eq_none (by omega)]
    exact h1
end


set_option maxRecDepth 10000 in
set_option maxHeartbeats 16000000 in
theorem dagOnce_any (a a2 : Option Addr) (n n2 c c2 : Nat) (l l2 : List ActC) (M : PH) (hl : rd a n 8 (l.map actCells) M) (hl2 : rd a2 n2 8 (l2.map actCells) M) (hln : l.length = n) (hln2 : l2.length = n2) (ho : ∀ x ∈ l, x.Ok M) (ho2 : ∀ x ∈ l2, x.Ok M) (htab : tabP M) :
    FS Tryd.prog 3 [.slice a n c, .slice a2 n2 c2] (imm M) [] (fun q H => q = .bool true ∧ H = []) := by
  refine FS.intro (N := 152) Tryd.func3 rfl rfl rfl (fun F w0 hF => ?_)
  refine CW.seq ?_
  refine CW.region ?_
  refine OL.q (Y.assign rfl) rfl ?_
  refine OL.nil ?_
  refine EX.seq ?_
  refine CW.seq ?_
  refine CW.seq ?_
  refine CW.region ?_
  refine OL.call [] (speaks_any) Tryd.call13 rfl rfl rfl rfl (Ent.frame Up.tabP (fun h hs => imm_ent Up.tabP htab h (hF h hs))) rfl ?_
  rintro _ _ ⟨rfl, rfl⟩
  refine ⟨rfl, rfl, ?_⟩
  refine OL.q (Y.not rfl) rfl ?_
  refine OL.nil ?_
  refine EX.seq ?_
  refine CW.cond rfl (fun h0 => ?_) (fun h0 => ?_)
  · repeat (first | replace h0 := yes h0 | replace h0 := no h0 | replace h0 := nyes h0 | replace h0 := nno h0)
    exfalso
    first | omega | contradiction | exact absurd rfl h0 | exact absurd h0 (by simp) | exact absurd h0 (by decide)
  repeat (first | replace h0 := yes h0 | replace h0 := no h0 | replace h0 := nyes h0 | replace h0 := nno h0)
  refine CW.skip ?_
  refine EX.seq ?_
  refine CW.seq ?_
  refine CW.seq ?_
  refine CW.region ?_
  refine OL.q (Y.move rfl) rfl ?_
  refine OL.call [] (great_any a n c l hln (lens ho)) Tryd.call14 rfl rfl rfl rfl (Ent.frame (Up.rd _ _ _ _) (fun h hs => imm_ent (Up.rd _ _ _ _) hl h (hF h hs))) rfl ?_
  rintro _ _ ⟨rfl, rfl⟩
  refine ⟨rfl, rfl, ?_⟩
  refine OL.q (Y.move rfl) rfl ?_
  refine OL.guard (s := 24) rfl (fun g3_2 => ?_) (fun g3_2 => ?_)
  · have ng3_2 := g3_2
    repeat (first | replace ng3_2 := yes ng3_2 | replace ng3_2 := no ng3_2 | replace ng3_2 := nyes ng3_2 | replace ng3_2 := nno ng3_2)
    refine OL.no g3_2 rfl rfl rfl ?_
    refine OL.no g3_2 rfl rfl rfl ?_
    refine OL.q (Y.pickT rfl g3_2 rfl) rfl ?_
    refine OL.nil ?_
    refine EX.seq ?_
    refine CW.cond rfl (fun h1 => ?_) (fun h1 => ?_)
    rotate_left
    · repeat (first | replace h1 := yes h1 | replace h1 := no h1 | replace h1 := nyes h1 | replace h1 := nno h1)
      exfalso
      first | omega | contradiction | exact absurd rfl h1 | exact absurd h1 (by simp) | exact absurd h1 (by decide)
    repeat (first | replace h1 := yes h1 | replace h1 := no h1 | replace h1 := nyes h1 | replace h1 := nno h1)
    refine CW.seq ?_
    refine CW.region ?_
    refine OL.q (Y.assign rfl) rfl ?_
    refine OL.nil ?_
    refine EX.seq ?_
    refine CW.ret ?_
    refine EX.retT ?_
    exact EX.fin1 [] rfl rfl rfl ⟨rfl, rfl⟩
  · have ng3_2 := g3_2
    repeat (first | replace ng3_2 := yes ng3_2 | replace ng3_2 := no ng3_2 | replace ng3_2 := nyes ng3_2 | replace ng3_2 := nno ng3_2)
    have hg : greatP (l.map ActC.q) = false := ng3_2
    have hl80 := small_len hg
    refine OL.on g3_2 rfl rfl ?_
    refine OL.q (Y.move rfl) rfl ?_
    refine OL.on g3_2 rfl rfl ?_
    refine OL.call [] (great_any a2 n2 c2 l2 hln2 (lens ho2)) Tryd.call14 rfl rfl rfl rfl (Ent.frame (Up.rd _ _ _ _) (fun h hs => imm_ent (Up.rd _ _ _ _) hl2 h (hF h hs))) rfl ?_
    rintro _ _ ⟨rfl, rfl⟩
    refine ⟨rfl, rfl, ?_⟩
    refine OL.q (Y.pickF rfl g3_2 rfl) rfl ?_
    refine OL.nil ?_
    refine EX.seq ?_
    refine CW.cond rfl (fun h1 => ?_) (fun h1 => ?_)
    · have bh1 := h1
      repeat (first | replace h1 := yes h1 | replace h1 := no h1 | replace h1 := nyes h1 | replace h1 := nno h1)
      refine CW.seq ?_
      refine CW.region ?_
      refine OL.q (Y.assign rfl) rfl ?_
      refine OL.nil ?_
      refine EX.seq ?_
      refine CW.ret ?_
      refine EX.retT ?_
      exact EX.fin1 [] rfl rfl rfl ⟨rfl, rfl⟩
    · have bh1 := h1
      repeat (first | replace h1 := yes h1 | replace h1 := no h1 | replace h1 := nyes h1 | replace h1 := nno h1)
      have hg2 : greatP (l2.map ActC.q) = false := h1
      have hl82 := small_len hg2
      refine CW.skip ?_
      refine EX.seq ?_
      refine CW.seq ?_
      refine CW.region ?_
      refine OL.call [] (New_w 1000) Tryd.call15 rfl rfl rfl rfl (Ent.frame Up.tabP (fun h hs => imm_ent Up.tabP htab h (hF h hs))) rfl ?_
      rintro _ _ ⟨t, rfl, rfl⟩
      refine ⟨rfl, rfl, ?_⟩
      refine OL.q (Y.assign rfl) rfl ?_
      refine OL.nil ?_
      refine EX.seq ?_
      refine CW.seq ?_
      refine CW.region ?_
      refine OL.makeMap (Value.int .i64) rfl (fun b29 => ⟨rfl, rfl, ?_⟩)
      refine OL.q (Y.assign rfl) rfl ?_
      refine OL.nil ?_
      refine EX.seq ?_
      refine CW.seq ?_
      refine CW.seq ?_
      refine CW.region ?_
      refine OL.buildSlice ([]) Tryd.underlying22 C32 (by decide) rfl (by decide) rfl rfl rfl (fun b30 => ⟨rfl, rfl, ?_⟩)
      refine OL.q (Y.move rfl) rfl ?_
      refine OL.append (l.map actCells) 2 rfl Tryd.underlying22 E32 rfl rfl (Ent.frame (Up.rd _ _ _ _) (fun h hs => imm_ent (Up.rd _ _ _ _) hl h (hF h hs))) (oneRows_map _ (fun _ => rfl) _) (by omega) (by omega) rfl (fun a32 c32 => ⟨rfl, rfl, ?_⟩)
      refine OL.q (Y.move rfl) rfl ?_
      refine OL.append (l2.map actCells) 2 rfl Tryd.underlying22 E32 rfl rfl (Ent.frame (Up.rd _ _ _ _) (fun h hs => imm_ent (Up.rd _ _ _ _) hl2 h (hF h hs))) (oneRows_map _ (fun _ => rfl) _) (by omega) (by omega) rfl (fun a34 c34 => ⟨rfl, rfl, ?_⟩)
      rw [List.nil_append, ← List.map_append, Nat.zero_add n]
      refine OL.q (Y.lenSl Tryd.underlying22 rfl) rfl ?_
      refine OL.q (Y.move rfl) rfl ?_
      refine OL.nil ?_
      refine EX.seq ?_
      refine CW.block ?_
      refine CW.loop (α := Nat × ArP × List TermC) ⟨(fun q_ => q_.1 ≤ n + n2 ∧ q_.2.1.Good ∧ q_.2.2.map TermC.q = q_.2.1.terms ∧ (∀ y ∈ q_.2.2, y.Ok M ∧ y.kids.length ≤ 12 ∧ y.num.size ≤ 60) ∧ q_.2.1.sorts.length ≤ 2 + q_.1 ∧ q_.2.1.funs.length ≤ q_.1 ∧ q_.2.2.length ≤ q_.1), (fun q_ => [(5, Value.pointer (some { block := t, off := 0 })), (6, Value.map (some b29)), (34, Value.slice a34 (n + n2) c34), (35, Value.int IntKind.i64 ↑(n + n2)), (36, .int .i64 q_.1)]), (fun q_ => [arena t q_.2.1, mapc (Value.int .i64) b29 (tml 0 q_.2.2), row a34 (n + n2) c34 32 8 ((l ++ l2).map actCells)])⟩
        (fun q_ => (n + n2 - q_.1 : Nat)) (0, ArP.new 1000, []) [0, 1, 2] ⟨Nat.zero_le _, new_good 1000, rfl, (fun _ h => nomatch h), Nat.le_refl _, Nat.zero_le _, Nat.zero_le _⟩ ⟨rfl, rfl, rfl, rfl, rfl, trivial⟩ rfl rfl ?_
      rintro ⟨k, A, ys⟩ ⟨hk, hG, hys, hyo, hbd1, hbd2, hbd3⟩
      dsimp only at hk hG hys hyo hbd1 hbd2 hbd3 ⊢
      refine CW.seq ?_
      refine CW.region ?_
      refine OL.q (Y.lss rfl rfl) rfl ?_
      refine OL.nil ?_
      refine EX.seq ?_
      refine CW.seq ?_
      refine CW.cond rfl (fun h2 => ?_) (fun h2 => ?_)
      · have bh2 := h2
        repeat (first | replace h2 := yes h2 | replace h2 := no h2 | replace h2 := nyes h2 | replace h2 := nno h2)
        obtain ⟨x, hp⟩ : ∃ p, (l ++ l2)[k]? = some p := ⟨_, List.getElem?_eq_getElem (by rw [List.length_append]; omega)⟩
        obtain ⟨⟨⟨hxr, hxc, hxl⟩, ⟨hyr, hyc, hyl⟩⟩, hs1, hs2, hs3, hs4⟩ : x.Ok M ∧ x.name.size ≤ 60 ∧ x.args.length ≤ 12 ∧ x.term.kids.length ≤ 12 ∧ x.term.num.size ≤ 60 := by
          rcases List.mem_append.1 (mem_of hp) with h9 | h9
          · obtain ⟨j, hj, hje⟩ := List.getElem_of_mem h9
            exact ⟨ho x h9, (small_act hg (by rw [List.getElem?_eq_getElem hj, hje])).2⟩
          · obtain ⟨j, hj, hje⟩ := List.getElem_of_mem h9
            exact ⟨ho2 x h9, (small_act hg2 (by rw [List.getElem?_eq_getElem hj, hje])).2⟩
        have hyl2 : ys.length = A.terms.length := by rw [← hys]; simp
        refine CW.skip ?_
        refine EX.seq ?_
        refine CW.seq ?_
        refine CW.block ?_
        refine CW.seq ?_
        refine CW.region ?_
        refine OL.q (Y.move rfl) rfl ?_
        first | refine OL.q (Y.index Tryd.underlying22 C32 rfl rfl (Ent.at 0 rfl (Up.rd _ _ _ _) row_rd) rfl (by omega)) rfl ?_ | refine OL.q (Y.index Tryd.underlying22 C32 rfl rfl (Ent.at 1 rfl (Up.rd _ _ _ _) row_rd) rfl (by omega)) rfl ?_ | refine OL.q (Y.index Tryd.underlying22 C32 rfl rfl (Ent.at 2 rfl (Up.rd _ _ _ _) row_rd) rfl (by omega)) rfl ?_ | refine OL.q (Y.index Tryd.underlying22 C32 rfl rfl (Ent.at 3 rfl (Up.rd _ _ _ _) row_rd) rfl (by omega)) rfl ?_ | refine OL.q (Y.index Tryd.underlying22 C32 rfl rfl (Ent.at 4 rfl (Up.rd _ _ _ _) row_rd) rfl (by omega)) rfl ?_ | refine OL.q (Y.index Tryd.underlying22 C32 rfl rfl (Ent.at 5 rfl (Up.rd _ _ _ _) row_rd) rfl (by omega)) rfl ?_ | refine OL.q (Y.index Tryd.underlying22 C32 rfl rfl (Ent.at 6 rfl (Up.rd _ _ _ _) row_rd) rfl (by omega)) rfl ?_ | refine OL.q (Y.index Tryd.underlying22 C32 rfl rfl (Ent.at 7 rfl (Up.rd _ _ _ _) row_rd) rfl (by omega)) rfl ?_ | refine OL.q (Y.index Tryd.underlying22 C32 rfl rfl (Ent.frame (Up.rd _ _ _ _) (fun h hs => imm_ent (Up.rd _ _ _ _) (by assumption) h (hF h hs))) rfl (by omega)) rfl ?_
        first | refine OL.q (Y.loadN S32 rfl rfl (Ent.at 0 rfl (Up.cellsIs _ _ _) blk_cells)) rfl ?_ | refine OL.q (Y.loadN S32 rfl rfl (Ent.at 1 rfl (Up.cellsIs _ _ _) blk_cells)) rfl ?_ | refine OL.q (Y.loadN S32 rfl rfl (Ent.at 2 rfl (Up.cellsIs _ _ _) blk_cells)) rfl ?_ | refine OL.q (Y.loadN S32 rfl rfl (Ent.at 3 rfl (Up.cellsIs _ _ _) blk_cells)) rfl ?_ | refine OL.q (Y.loadN S32 rfl rfl (Ent.at 4 rfl (Up.cellsIs _ _ _) blk_cells)) rfl ?_ | refine OL.q (Y.loadN S32 rfl rfl (Ent.at 5 rfl (Up.cellsIs _ _ _) blk_cells)) rfl ?_ | refine OL.q (Y.loadN S32 rfl rfl (Ent.at 6 rfl (Up.cellsIs _ _ _) blk_cells)) rfl ?_ | refine OL.q (Y.loadN S32 rfl rfl (Ent.at 7 rfl (Up.cellsIs _ _ _) blk_cells)) rfl ?_ | refine OL.q (Y.loadN S32 rfl rfl (rd_at (Ent.at 0 rfl (Up.rd _ _ _ _) row_rd) (mget _ (by assumption)))) rfl ?_ | refine OL.q (Y.loadN S32 rfl rfl (rd_at (Ent.at 1 rfl (Up.rd _ _ _ _) row_rd) (mget _ (by assumption)))) rfl ?_ | refine OL.q (Y.loadN S32 rfl rfl (rd_at (Ent.at 2 rfl (Up.rd _ _ _ _) row_rd) (mget _ (by assumption)))) rfl ?_ | refine OL.q (Y.loadN S32 rfl rfl (rd_at (Ent.at 3 rfl (Up.rd _ _ _ _) row_rd) (mget _ (by assumption)))) rfl ?_ | refine OL.q (Y.loadN S32 rfl rfl (rd_at (Ent.at 4 rfl (Up.rd _ _ _ _) row_rd) (mget _ (by assumption)))) rfl ?_ | refine OL.q (Y.loadN S32 rfl rfl (rd_at (Ent.at 5 rfl (Up.rd _ _ _ _) row_rd) (mget _ (by assumption)))) rfl ?_ | refine OL.q (Y.loadN S32 rfl rfl (rd_at (Ent.at 6 rfl (Up.rd _ _ _ _) row_rd) (mget _ (by assumption)))) rfl ?_ | refine OL.q (Y.loadN S32 rfl rfl (rd_at (Ent.at 7 rfl (Up.rd _ _ _ _) row_rd) (mget _ (by assumption)))) rfl ?_ | refine OL.q (Y.loadN S32 rfl rfl (rd_at (Ent.frame (Up.rd _ _ _ _) (fun h hs => imm_ent (Up.rd _ _ _ _) (by assumption) h (hF h hs))) (mget _ (by assumption)))) rfl ?_
        refine OL.alloc C32 rfl (fun b8 => ⟨rfl, rfl, ?_⟩)
        refine OL.q (Y.assign rfl) rfl ?_
        first | refine OL.storeAll 0 rfl C32 rfl rfl rfl rfl rfl rfl ⟨rfl, rfl, ?_⟩ | refine OL.storeAll 1 rfl C32 rfl rfl rfl rfl rfl rfl ⟨rfl, rfl, ?_⟩ | refine OL.storeAll 2 rfl C32 rfl rfl rfl rfl rfl rfl ⟨rfl, rfl, ?_⟩ | refine OL.storeAll 3 rfl C32 rfl rfl rfl rfl rfl rfl ⟨rfl, rfl, ?_⟩ | refine OL.storeAll 4 rfl C32 rfl rfl rfl rfl rfl rfl ⟨rfl, rfl, ?_⟩ | refine OL.storeAll 5 rfl C32 rfl rfl rfl rfl rfl rfl ⟨rfl, rfl, ?_⟩ | refine OL.storeAll 6 rfl C32 rfl rfl rfl rfl rfl rfl ⟨rfl, rfl, ?_⟩ | refine OL.storeAll 7 rfl C32 rfl rfl rfl rfl rfl rfl ⟨rfl, rfl, ?_⟩
        refine OL.nil ?_
        refine EX.seq ?_
        refine CW.seq ?_
        refine CW.seq ?_
        refine CW.region ?_
        refine OL.q (Y.field L32_0 rfl) rfl ?_
        first | refine OL.q (Y.load T3 rfl (Ent.at 0 rfl (Up.cellIs _ _ _) (blk_cell rfl))) rfl ?_ | refine OL.q (Y.load T3 rfl (Ent.at 1 rfl (Up.cellIs _ _ _) (blk_cell rfl))) rfl ?_ | refine OL.q (Y.load T3 rfl (Ent.at 2 rfl (Up.cellIs _ _ _) (blk_cell rfl))) rfl ?_ | refine OL.q (Y.load T3 rfl (Ent.at 3 rfl (Up.cellIs _ _ _) (blk_cell rfl))) rfl ?_ | refine OL.q (Y.load T3 rfl (Ent.at 4 rfl (Up.cellIs _ _ _) (blk_cell rfl))) rfl ?_ | refine OL.q (Y.load T3 rfl (Ent.at 5 rfl (Up.cellIs _ _ _) (blk_cell rfl))) rfl ?_ | refine OL.q (Y.load T3 rfl (Ent.at 6 rfl (Up.cellIs _ _ _) (blk_cell rfl))) rfl ?_ | refine OL.q (Y.load T3 rfl (Ent.at 7 rfl (Up.cellIs _ _ _) (blk_cell rfl))) rfl ?_ | refine OL.q (Y.load T3 rfl (cellsIs_at0 (rd_at (Ent.at 0 rfl (Up.rd _ _ _ _) row_rd) (mget _ (by assumption))) rfl)) rfl ?_ | refine OL.q (Y.load T3 rfl (cellsIs_at (rd_at (Ent.at 0 rfl (Up.rd _ _ _ _) row_rd) (mget _ (by assumption))) rfl)) rfl ?_ | refine OL.q (Y.load T3 rfl (cellsIs_at0 (rd_at (Ent.at 1 rfl (Up.rd _ _ _ _) row_rd) (mget _ (by assumption))) rfl)) rfl ?_ | refine OL.q (Y.load T3 rfl (cellsIs_at (rd_at (Ent.at 1 rfl (Up.rd _ _ _ _) row_rd) (mget _ (by assumption))) rfl)) rfl ?_ | refine OL.q (Y.load T3 rfl (cellsIs_at0 (rd_at (Ent.at 2 rfl (Up.rd _ _ _ _) row_rd) (mget _ (by assumption))) rfl)) rfl ?_ | refine OL.q (Y.load T3 rfl (cellsIs_at (rd_at (Ent.at 2 rfl (Up.rd _ _ _ _) row_rd) (mget _ (by assumption))) rfl)) rfl ?_ | refine OL.q (Y.load T3 rfl (cellsIs_at0 (rd_at (Ent.at 3 rfl (Up.rd _ _ _ _) row_rd) (mget _ (by assumption))) rfl)) rfl ?_ | refine OL.q (Y.load T3 rfl (cellsIs_at (rd_at (Ent.at 3 rfl (Up.rd _ _ _ _) row_rd) (mget _ (by assumption))) rfl)) rfl ?_ | refine OL.q (Y.load T3 rfl (cellsIs_at0 (rd_at (Ent.at 4 rfl (Up.rd _ _ _ _) row_rd) (mget _ (by assumption))) rfl)) rfl ?_ | refine OL.q (Y.load T3 rfl (cellsIs_at (rd_at (Ent.at 4 rfl (Up.rd _ _ _ _) row_rd) (mget _ (by assumption))) rfl)) rfl ?_ | refine OL.q (Y.load T3 rfl (cellsIs_at0 (rd_at (Ent.at 5 rfl (Up.rd _ _ _ _) row_rd) (mget _ (by assumption))) rfl)) rfl ?_ | refine OL.q (Y.load T3 rfl (cellsIs_at (rd_at (Ent.at 5 rfl (Up.rd _ _ _ _) row_rd) (mget _ (by assumption))) rfl)) rfl ?_ | refine OL.q (Y.load T3 rfl (cellsIs_at0 (rd_at (Ent.at 6 rfl (Up.rd _ _ _ _) row_rd) (mget _ (by assumption))) rfl)) rfl ?_ | refine OL.q (Y.load T3 rfl (cellsIs_at (rd_at (Ent.at 6 rfl (Up.rd _ _ _ _) row_rd) (mget _ (by assumption))) rfl)) rfl ?_ | refine OL.q (Y.load T3 rfl (cellsIs_at0 (rd_at (Ent.at 7 rfl (Up.rd _ _ _ _) row_rd) (mget _ (by assumption))) rfl)) rfl ?_ | refine OL.q (Y.load T3 rfl (cellsIs_at (rd_at (Ent.at 7 rfl (Up.rd _ _ _ _) row_rd) (mget _ (by assumption))) rfl)) rfl ?_ | refine OL.q (Y.load T3 rfl (cellsIs_at0 (rd_at (Ent.frame (Up.rd _ _ _ _) (fun h hs => imm_ent (Up.rd _ _ _ _) (by assumption) h (hF h hs))) (mget _ (by assumption))) rfl)) rfl ?_ | refine OL.q (Y.load T3 rfl (cellsIs_at (rd_at (Ent.frame (Up.rd _ _ _ _) (fun h hs => imm_ent (Up.rd _ _ _ _) (by assumption) h (hF h hs))) (mget _ (by assumption))) rfl)) rfl ?_
        refine OL.q (Y.eql rfl rfl) rfl ?_
        refine OL.nil ?_
        refine EX.seq ?_
        refine CW.cond rfl (fun h3 => ?_) (fun h3 => ?_)
        · have bh3 := h3
          repeat (first | replace h3 := yes h3 | replace h3 := no h3 | replace h3 := nyes h3 | replace h3 := nno h3)
          refine CW.seq ?_
          refine CW.region ?_
          refine OL.q (Y.move rfl) rfl ?_
          refine OL.q (Y.field L32_1 rfl) rfl ?_
          first | refine OL.q (Y.load T9 rfl (Ent.at 0 rfl (Up.cellIs _ _ _) (blk_cell rfl))) rfl ?_ | refine OL.q (Y.load T9 rfl (Ent.at 1 rfl (Up.cellIs _ _ _) (blk_cell rfl))) rfl ?_ | refine OL.q (Y.load T9 rfl (Ent.at 2 rfl (Up.cellIs _ _ _) (blk_cell rfl))) rfl ?_ | refine OL.q (Y.load T9 rfl (Ent.at 3 rfl (Up.cellIs _ _ _) (blk_cell rfl))) rfl ?_ | refine OL.q (Y.load T9 rfl (Ent.at 4 rfl (Up.cellIs _ _ _) (blk_cell rfl))) rfl ?_ | refine OL.q (Y.load T9 rfl (Ent.at 5 rfl (Up.cellIs _ _ _) (blk_cell rfl))) rfl ?_ | refine OL.q (Y.load T9 rfl (Ent.at 6 rfl (Up.cellIs _ _ _) (blk_cell rfl))) rfl ?_ | refine OL.q (Y.load T9 rfl (Ent.at 7 rfl (Up.cellIs _ _ _) (blk_cell rfl))) rfl ?_ | refine OL.q (Y.load T9 rfl (cellsIs_at0 (rd_at (Ent.at 0 rfl (Up.rd _ _ _ _) row_rd) (mget _ (by assumption))) rfl)) rfl ?_ | refine OL.q (Y.load T9 rfl (cellsIs_at (rd_at (Ent.at 0 rfl (Up.rd _ _ _ _) row_rd) (mget _ (by assumption))) rfl)) rfl ?_ | refine OL.q (Y.load T9 rfl (cellsIs_at0 (rd_at (Ent.at 1 rfl (Up.rd _ _ _ _) row_rd) (mget _ (by assumption))) rfl)) rfl ?_ | refine OL.q (Y.load T9 rfl (cellsIs_at (rd_at (Ent.at 1 rfl (Up.rd _ _ _ _) row_rd) (mget _ (by assumption))) rfl)) rfl ?_ | refine OL.q (Y.load T9 rfl (cellsIs_at0 (rd_at (Ent.at 2 rfl (Up.rd _ _ _ _) row_rd) (mget _ (by assumption))) rfl)) rfl ?_ | refine OL.q (Y.load T9 rfl (cellsIs_at (rd_at (Ent.at 2 rfl (Up.rd _ _ _ _) row_rd) (mget _ (by assumption))) rfl)) rfl ?_ | refine OL.q (Y.load T9 rfl (cellsIs_at0 (rd_at (Ent.at 3 rfl (Up.rd _ _ _ _) row_rd) (mget _ (by assumption))) rfl)) rfl ?_ | refine OL.q (Y.load T9 rfl (cellsIs_at (rd_at (Ent.at 3 rfl (Up.rd _ _ _ _) row_rd) (mget _ (by assumption))) rfl)) rfl ?_ | refine OL.q (Y.load T9 rfl (cellsIs_at0 (rd_at (Ent.at 4 rfl (Up.rd _ _ _ _) row_rd) (mget _ (by assumption))) rfl)) rfl ?_ | refine OL.q (Y.load T9 rfl (cellsIs_at (rd_at (Ent.at 4 rfl (Up.rd _ _ _ _) row_rd) (mget _ (by assumption))) rfl)) rfl ?_ | refine OL.q (Y.load T9 rfl (cellsIs_at0 (rd_at (Ent.at 5 rfl (Up.rd _ _ _ _) row_rd) (mget _ (by assumption))) rfl)) rfl ?_ | refine OL.q (Y.load T9 rfl (cellsIs_at (rd_at (Ent.at 5 rfl (Up.rd _ _ _ _) row_rd) (mget _ (by assumption))) rfl)) rfl ?_ | refine OL.q (Y.load T9 rfl (cellsIs_at0 (rd_at (Ent.at 6 rfl (Up.rd _ _ _ _) row_rd) (mget _ (by assumption))) rfl)) rfl ?_ | refine OL.q (Y.load T9 rfl (cellsIs_at (rd_at (Ent.at 6 rfl (Up.rd _ _ _ _) row_rd) (mget _ (by assumption))) rfl)) rfl ?_ | refine OL.q (Y.load T9 rfl (cellsIs_at0 (rd_at (Ent.at 7 rfl (Up.rd _ _ _ _) row_rd) (mget _ (by assumption))) rfl)) rfl ?_ | refine OL.q (Y.load T9 rfl (cellsIs_at (rd_at (Ent.at 7 rfl (Up.rd _ _ _ _) row_rd) (mget _ (by assumption))) rfl)) rfl ?_ | refine OL.q (Y.load T9 rfl (cellsIs_at0 (rd_at (Ent.frame (Up.rd _ _ _ _) (fun h hs => imm_ent (Up.rd _ _ _ _) (by assumption) h (hF h hs))) (mget _ (by assumption))) rfl)) rfl ?_ | refine OL.q (Y.load T9 rfl (cellsIs_at (rd_at (Ent.frame (Up.rd _ _ _ _) (fun h hs => imm_ent (Up.rd _ _ _ _) (by assumption) h (hF h hs))) (mget _ (by assumption))) rfl)) rfl ?_
          refine OL.q (Y.field L32_2 rfl) rfl ?_
          first | refine OL.q (Y.load T28 rfl (Ent.at 0 rfl (Up.cellIs _ _ _) (blk_cell rfl))) rfl ?_ | refine OL.q (Y.load T28 rfl (Ent.at 1 rfl (Up.cellIs _ _ _) (blk_cell rfl))) rfl ?_ | refine OL.q (Y.load T28 rfl (Ent.at 2 rfl (Up.cellIs _ _ _) (blk_cell rfl))) rfl ?_ | refine OL.q (Y.load T28 rfl (Ent.at 3 rfl (Up.cellIs _ _ _) (blk_cell rfl))) rfl ?_ | refine OL.q (Y.load T28 rfl (Ent.at 4 rfl (Up.cellIs _ _ _) (blk_cell rfl))) rfl ?_ | refine OL.q (Y.load T28 rfl (Ent.at 5 rfl (Up.cellIs _ _ _) (blk_cell rfl))) rfl ?_ | refine OL.q (Y.load T28 rfl (Ent.at 6 rfl (Up.cellIs _ _ _) (blk_cell rfl))) rfl ?_ | refine OL.q (Y.load T28 rfl (Ent.at 7 rfl (Up.cellIs _ _ _) (blk_cell rfl))) rfl ?_ | refine OL.q (Y.load T28 rfl (cellsIs_at0 (rd_at (Ent.at 0 rfl (Up.rd _ _ _ _) row_rd) (mget _ (by assumption))) rfl)) rfl ?_ | refine OL.q (Y.load T28 rfl (cellsIs_at (rd_at (Ent.at 0 rfl (Up.rd _ _ _ _) row_rd) (mget _ (by assumption))) rfl)) rfl ?_ | refine OL.q (Y.load T28 rfl (cellsIs_at0 (rd_at (Ent.at 1 rfl (Up.rd _ _ _ _) row_rd) (mget _ (by assumption))) rfl)) rfl ?_ | refine OL.q (Y.load T28 rfl (cellsIs_at (rd_at (Ent.at 1 rfl (Up.rd _ _ _ _) row_rd) (mget _ (by assumption))) rfl)) rfl ?_ | refine OL.q (Y.load T28 rfl (cellsIs_at0 (rd_at (Ent.at 2 rfl (Up.rd _ _ _ _) row_rd) (mget _ (by assumption))) rfl)) rfl ?_ | refine OL.q (Y.load T28 rfl (cellsIs_at (rd_at (Ent.at 2 rfl (Up.rd _ _ _ _) row_rd) (mget _ (by assumption))) rfl)) rfl ?_ | refine OL.q (Y.load T28 rfl (cellsIs_at0 (rd_at (Ent.at 3 rfl (Up.rd _ _ _ _) row_rd) (mget _ (by assumption))) rfl)) rfl ?_ | refine OL.q (Y.load T28 rfl (cellsIs_at (rd_at (Ent.at 3 rfl (Up.rd _ _ _ _) row_rd) (mget _ (by assumption))) rfl)) rfl ?_ | refine OL.q (Y.load T28 rfl (cellsIs_at0 (rd_at (Ent.at 4 rfl (Up.rd _ _ _ _) row_rd) (mget _ (by assumption))) rfl)) rfl ?_ | refine OL.q (Y.load T28 rfl (cellsIs_at (rd_at (Ent.at 4 rfl (Up.rd _ _ _ _) row_rd) (mget _ (by assumption))) rfl)) rfl ?_ | refine OL.q (Y.load T28 rfl (cellsIs_at0 (rd_at (Ent.at 5 rfl (Up.rd _ _ _ _) row_rd) (mget _ (by assumption))) rfl)) rfl ?_ | refine OL.q (Y.load T28 rfl (cellsIs_at (rd_at (Ent.at 5 rfl (Up.rd _ _ _ _) row_rd) (mget _ (by assumption))) rfl)) rfl ?_ | refine OL.q (Y.load T28 rfl (cellsIs_at0 (rd_at (Ent.at 6 rfl (Up.rd _ _ _ _) row_rd) (mget _ (by assumption))) rfl)) rfl ?_ | refine OL.q (Y.load T28 rfl (cellsIs_at (rd_at (Ent.at 6 rfl (Up.rd _ _ _ _) row_rd) (mget _ (by assumption))) rfl)) rfl ?_ | refine OL.q (Y.load T28 rfl (cellsIs_at0 (rd_at (Ent.at 7 rfl (Up.rd _ _ _ _) row_rd) (mget _ (by assumption))) rfl)) rfl ?_ | refine OL.q (Y.load T28 rfl (cellsIs_at (rd_at (Ent.at 7 rfl (Up.rd _ _ _ _) row_rd) (mget _ (by assumption))) rfl)) rfl ?_ | refine OL.q (Y.load T28 rfl (cellsIs_at0 (rd_at (Ent.frame (Up.rd _ _ _ _) (fun h hs => imm_ent (Up.rd _ _ _ _) (by assumption) h (hF h hs))) (mget _ (by assumption))) rfl)) rfl ?_ | refine OL.q (Y.load T28 rfl (cellsIs_at (rd_at (Ent.frame (Up.rd _ _ _ _) (fun h hs => imm_ent (Up.rd _ _ _ _) (by assumption) h (hF h hs))) (mget _ (by assumption))) rfl)) rfl ?_
          refine OL.call [0] (Sort_w t A x.name x.a x.n x.c x.args hxl (by omega) (by omega) (by omega)) Tryd.call16 rfl rfl rfl rfl (Ent.and (Ent.frame Up.tabP (fun h hs => imm_ent Up.tabP htab h (hF h hs))) (Ent.frame (Up.rd _ _ _ _) (fun h hs => imm_ent (Up.rd _ _ _ _) hxr h (hF h hs)))) rfl ?_
          rintro _ _ ⟨rfl, rfl⟩
          refine ⟨rfl, rfl, ?_⟩
          refine OL.nil ?_
          refine EX.seq ?_
          refine CW.exit ?_
          refine EX.exitT ?_
          refine EX.exitB ?_
          refine EX.seq ?_
          refine CW.region ?_
          first | refine OL.q (Y.add1 rfl rfl rfl (by omega)) rfl ?_ | refine OL.q (Y.addN rfl rfl (by omega)) rfl ?_ | refine OL.q (Y.add rfl rfl (by omega)) rfl ?_
          refine OL.q (Y.move rfl) rfl ?_
          refine OL.nil ?_
          have hbs := sort_bd A x.name x.args
          exact EX.next (k + 1, (A.sort x.name x.args).2.2, ys) [0, 1, 2] (by dsimp only; exact ⟨by omega, hG.sort _ _, by rw [sort_terms]; exact hys, hyo, by omega, by omega, by omega⟩) (by first | omega | (dsimp only; omega)) ⟨rfl, rfl, rfl, rfl, rfl, trivial⟩ rfl rfl
        · have bh3 := h3
          repeat (first | replace h3 := yes h3 | replace h3 := no h3 | replace h3 := nyes h3 | replace h3 := nno h3)
          refine CW.skip ?_
          refine EX.seq ?_
          refine CW.seq ?_
          refine CW.seq ?_
          refine CW.region ?_
          refine OL.q (Y.field L32_0 rfl) rfl ?_
          first | refine OL.q (Y.load T3 rfl (Ent.at 0 rfl (Up.cellIs _ _ _) (blk_cell rfl))) rfl ?_ | refine OL.q (Y.load T3 rfl (Ent.at 1 rfl (Up.cellIs _ _ _) (blk_cell rfl))) rfl ?_ | refine OL.q (Y.load T3 rfl (Ent.at 2 rfl (Up.cellIs _ _ _) (blk_cell rfl))) rfl ?_ | refine OL.q (Y.load T3 rfl (Ent.at 3 rfl (Up.cellIs _ _ _) (blk_cell rfl))) rfl ?_ | refine OL.q (Y.load T3 rfl (Ent.at 4 rfl (Up.cellIs _ _ _) (blk_cell rfl))) rfl ?_ | refine OL.q (Y.load T3 rfl (Ent.at 5 rfl (Up.cellIs _ _ _) (blk_cell rfl))) rfl ?_ | refine OL.q (Y.load T3 rfl (Ent.at 6 rfl (Up.cellIs _ _ _) (blk_cell rfl))) rfl ?_ | refine OL.q (Y.load T3 rfl (Ent.at 7 rfl (Up.cellIs _ _ _) (blk_cell rfl))) rfl ?_ | refine OL.q (Y.load T3 rfl (cellsIs_at0 (rd_at (Ent.at 0 rfl (Up.rd _ _ _ _) row_rd) (mget _ (by assumption))) rfl)) rfl ?_ | refine OL.q (Y.load T3 rfl (cellsIs_at (rd_at (Ent.at 0 rfl (Up.rd _ _ _ _) row_rd) (mget _ (by assumption))) rfl)) rfl ?_ | refine OL.q (Y.load T3 rfl (cellsIs_at0 (rd_at (Ent.at 1 rfl (Up.rd _ _ _ _) row_rd) (mget _ (by assumption))) rfl)) rfl ?_ | refine OL.q (Y.load T3 rfl (cellsIs_at (rd_at (Ent.at 1 rfl (Up.rd _ _ _ _) row_rd) (mget _ (by assumption))) rfl)) rfl ?_ | refine OL.q (Y.load T3 rfl (cellsIs_at0 (rd_at (Ent.at 2 rfl (Up.rd _ _ _ _) row_rd) (mget _ (by assumption))) rfl)) rfl ?_ | refine OL.q (Y.load T3 rfl (cellsIs_at (rd_at (Ent.at 2 rfl (Up.rd _ _ _ _) row_rd) (mget _ (by assumption))) rfl)) rfl ?_ | refine OL.q (Y.load T3 rfl (cellsIs_at0 (rd_at (Ent.at 3 rfl (Up.rd _ _ _ _) row_rd) (mget _ (by assumption))) rfl)) rfl ?_ | refine OL.q (Y.load T3 rfl (cellsIs_at (rd_at (Ent.at 3 rfl (Up.rd _ _ _ _) row_rd) (mget _ (by assumption))) rfl)) rfl ?_ | refine OL.q (Y.load T3 rfl (cellsIs_at0 (rd_at (Ent.at 4 rfl (Up.rd _ _ _ _) row_rd) (mget _ (by assumption))) rfl)) rfl ?_ | refine OL.q (Y.load T3 rfl (cellsIs_at (rd_at (Ent.at 4 rfl (Up.rd _ _ _ _) row_rd) (mget _ (by assumption))) rfl)) rfl ?_ | refine OL.q (Y.load T3 rfl (cellsIs_at0 (rd_at (Ent.at 5 rfl (Up.rd _ _ _ _) row_rd) (mget _ (by assumption))) rfl)) rfl ?_ | refine OL.q (Y.load T3 rfl (cellsIs_at (rd_at (Ent.at 5 rfl (Up.rd _ _ _ _) row_rd) (mget _ (by assumption))) rfl)) rfl ?_ | refine OL.q (Y.load T3 rfl (cellsIs_at0 (rd_at (Ent.at 6 rfl (Up.rd _ _ _ _) row_rd) (mget _ (by assumption))) rfl)) rfl ?_ | refine OL.q (Y.load T3 rfl (cellsIs_at (rd_at (Ent.at 6 rfl (Up.rd _ _ _ _) row_rd) (mget _ (by assumption))) rfl)) rfl ?_ | refine OL.q (Y.load T3 rfl (cellsIs_at0 (rd_at (Ent.at 7 rfl (Up.rd _ _ _ _) row_rd) (mget _ (by assumption))) rfl)) rfl ?_ | refine OL.q (Y.load T3 rfl (cellsIs_at (rd_at (Ent.at 7 rfl (Up.rd _ _ _ _) row_rd) (mget _ (by assumption))) rfl)) rfl ?_ | refine OL.q (Y.load T3 rfl (cellsIs_at0 (rd_at (Ent.frame (Up.rd _ _ _ _) (fun h hs => imm_ent (Up.rd _ _ _ _) (by assumption) h (hF h hs))) (mget _ (by assumption))) rfl)) rfl ?_ | refine OL.q (Y.load T3 rfl (cellsIs_at (rd_at (Ent.frame (Up.rd _ _ _ _) (fun h hs => imm_ent (Up.rd _ _ _ _) (by assumption) h (hF h hs))) (mget _ (by assumption))) rfl)) rfl ?_
          refine OL.q (Y.eql rfl rfl) rfl ?_
          refine OL.nil ?_
          refine EX.seq ?_
          refine CW.cond rfl (fun h4 => ?_) (fun h4 => ?_)
          · have bh4 := h4
            repeat (first | replace h4 := yes h4 | replace h4 := no h4 | replace h4 := nyes h4 | replace h4 := nno h4)
            refine CW.seq ?_
            refine CW.region ?_
            refine OL.q (Y.move rfl) rfl ?_
            refine OL.q (Y.field L32_1 rfl) rfl ?_
            first | refine OL.q (Y.load T9 rfl (Ent.at 0 rfl (Up.cellIs _ _ _) (blk_cell rfl))) rfl ?_ | refine OL.q (Y.load T9 rfl (Ent.at 1 rfl (Up.cellIs _ _ _) (blk_cell rfl))) rfl ?_ | refine OL.q (Y.load T9 rfl (Ent.at 2 rfl (Up.cellIs _ _ _) (blk_cell rfl))) rfl ?_ | refine OL.q (Y.load T9 rfl (Ent.at 3 rfl (Up.cellIs _ _ _) (blk_cell rfl))) rfl ?_ | refine OL.q (Y.load T9 rfl (Ent.at 4 rfl (Up.cellIs _ _ _) (blk_cell rfl))) rfl ?_ | refine OL.q (Y.load T9 rfl (Ent.at 5 rfl (Up.cellIs _ _ _) (blk_cell rfl))) rfl ?_ | refine OL.q (Y.load T9 rfl (Ent.at 6 rfl (Up.cellIs _ _ _) (blk_cell rfl))) rfl ?_ | refine OL.q (Y.load T9 rfl (Ent.at 7 rfl (Up.cellIs _ _ _) (blk_cell rfl))) rfl ?_ | refine OL.q (Y.load T9 rfl (cellsIs_at0 (rd_at (Ent.at 0 rfl (Up.rd _ _ _ _) row_rd) (mget _ (by assumption))) rfl)) rfl ?_ | refine OL.q (Y.load T9 rfl (cellsIs_at (rd_at (Ent.at 0 rfl (Up.rd _ _ _ _) row_rd) (mget _ (by assumption))) rfl)) rfl ?_ | refine OL.q (Y.load T9 rfl (cellsIs_at0 (rd_at (Ent.at 1 rfl (Up.rd _ _ _ _) row_rd) (mget _ (by assumption))) rfl)) rfl ?_ | refine OL.q (Y.load T9 rfl (cellsIs_at (rd_at (Ent.at 1 rfl (Up.rd _ _ _ _) row_rd) (mget _ (by assumption))) rfl)) rfl ?_ | refine OL.q (Y.load T9 rfl (cellsIs_at0 (rd_at (Ent.at 2 rfl (Up.rd _ _ _ _) row_rd) (mget _ (by assumption))) rfl)) rfl ?_ | refine OL.q (Y.load T9 rfl (cellsIs_at (rd_at (Ent.at 2 rfl (Up.rd _ _ _ _) row_rd) (mget _ (by assumption))) rfl)) rfl ?_ | refine OL.q (Y.load T9 rfl (cellsIs_at0 (rd_at (Ent.at 3 rfl (Up.rd _ _ _ _) row_rd) (mget _ (by assumption))) rfl)) rfl ?_ | refine OL.q (Y.load T9 rfl (cellsIs_at (rd_at (Ent.at 3 rfl (Up.rd _ _ _ _) row_rd) (mget _ (by assumption))) rfl)) rfl ?_ | refine OL.q (Y.load T9 rfl (cellsIs_at0 (rd_at (Ent.at 4 rfl (Up.rd _ _ _ _) row_rd) (mget _ (by assumption))) rfl)) rfl ?_ | refine OL.q (Y.load T9 rfl (cellsIs_at (rd_at (Ent.at 4 rfl (Up.rd _ _ _ _) row_rd) (mget _ (by assumption))) rfl)) rfl ?_ | refine OL.q (Y.load T9 rfl (cellsIs_at0 (rd_at (Ent.at 5 rfl (Up.rd _ _ _ _) row_rd) (mget _ (by assumption))) rfl)) rfl ?_ | refine OL.q (Y.load T9 rfl (cellsIs_at (rd_at (Ent.at 5 rfl (Up.rd _ _ _ _) row_rd) (mget _ (by assumption))) rfl)) rfl ?_ | refine OL.q (Y.load T9 rfl (cellsIs_at0 (rd_at (Ent.at 6 rfl (Up.rd _ _ _ _) row_rd) (mget _ (by assumption))) rfl)) rfl ?_ | refine OL.q (Y.load T9 rfl (cellsIs_at (rd_at (Ent.at 6 rfl (Up.rd _ _ _ _) row_rd) (mget _ (by assumption))) rfl)) rfl ?_ | refine OL.q (Y.load T9 rfl (cellsIs_at0 (rd_at (Ent.at 7 rfl (Up.rd _ _ _ _) row_rd) (mget _ (by assumption))) rfl)) rfl ?_ | refine OL.q (Y.load T9 rfl (cellsIs_at (rd_at (Ent.at 7 rfl (Up.rd _ _ _ _) row_rd) (mget _ (by assumption))) rfl)) rfl ?_ | refine OL.q (Y.load T9 rfl (cellsIs_at0 (rd_at (Ent.frame (Up.rd _ _ _ _) (fun h hs => imm_ent (Up.rd _ _ _ _) (by assumption) h (hF h hs))) (mget _ (by assumption))) rfl)) rfl ?_ | refine OL.q (Y.load T9 rfl (cellsIs_at (rd_at (Ent.frame (Up.rd _ _ _ _) (fun h hs => imm_ent (Up.rd _ _ _ _) (by assumption) h (hF h hs))) (mget _ (by assumption))) rfl)) rfl ?_
            refine OL.q (Y.field L32_2 rfl) rfl ?_
            first | refine OL.q (Y.load T28 rfl (Ent.at 0 rfl (Up.cellIs _ _ _) (blk_cell rfl))) rfl ?_ | refine OL.q (Y.load T28 rfl (Ent.at 1 rfl (Up.cellIs _ _ _) (blk_cell rfl))) rfl ?_ | refine OL.q (Y.load T28 rfl (Ent.at 2 rfl (Up.cellIs _ _ _) (blk_cell rfl))) rfl ?_ | refine OL.q (Y.load T28 rfl (Ent.at 3 rfl (Up.cellIs _ _ _) (blk_cell rfl))) rfl ?_ | refine OL.q (Y.load T28 rfl (Ent.at 4 rfl (Up.cellIs _ _ _) (blk_cell rfl))) rfl ?_ | refine OL.q (Y.load T28 rfl (Ent.at 5 rfl (Up.cellIs _ _ _) (blk_cell rfl))) rfl ?_ | refine OL.q (Y.load T28 rfl (Ent.at 6 rfl (Up.cellIs _ _ _) (blk_cell rfl))) rfl ?_ | refine OL.q (Y.load T28 rfl (Ent.at 7 rfl (Up.cellIs _ _ _) (blk_cell rfl))) rfl ?_ | refine OL.q (Y.load T28 rfl (cellsIs_at0 (rd_at (Ent.at 0 rfl (Up.rd _ _ _ _) row_rd) (mget _ (by assumption))) rfl)) rfl ?_ | refine OL.q (Y.load T28 rfl (cellsIs_at (rd_at (Ent.at 0 rfl (Up.rd _ _ _ _) row_rd) (mget _ (by assumption))) rfl)) rfl ?_ | refine OL.q (Y.load T28 rfl (cellsIs_at0 (rd_at (Ent.at 1 rfl (Up.rd _ _ _ _) row_rd) (mget _ (by assumption))) rfl)) rfl ?_ | refine OL.q (Y.load T28 rfl (cellsIs_at (rd_at (Ent.at 1 rfl (Up.rd _ _ _ _) row_rd) (mget _ (by assumption))) rfl)) rfl ?_ | refine OL.q (Y.load T28 rfl (cellsIs_at0 (rd_at (Ent.at 2 rfl (Up.rd _ _ _ _) row_rd) (mget _ (by assumption))) rfl)) rfl ?_ | refine OL.q (Y.load T28 rfl (cellsIs_at (rd_at (Ent.at 2 rfl (Up.rd _ _ _ _) row_rd) (mget _ (by assumption))) rfl)) rfl ?_ | refine OL.q (Y.load T28 rfl (cellsIs_at0 (rd_at (Ent.at 3 rfl (Up.rd _ _ _ _) row_rd) (mget _ (by assumption))) rfl)) rfl ?_ | refine OL.q (Y.load T28 rfl (cellsIs_at (rd_at (Ent.at 3 rfl (Up.rd _ _ _ _) row_rd) (mget _ (by assumption))) rfl)) rfl ?_ | refine OL.q (Y.load T28 rfl (cellsIs_at0 (rd_at (Ent.at 4 rfl (Up.rd _ _ _ _) row_rd) (mget _ (by assumption))) rfl)) rfl ?_ | refine OL.q (Y.load T28 rfl (cellsIs_at (rd_at (Ent.at 4 rfl (Up.rd _ _ _ _) row_rd) (mget _ (by assumption))) rfl)) rfl ?_ | refine OL.q (Y.load T28 rfl (cellsIs_at0 (rd_at (Ent.at 5 rfl (Up.rd _ _ _ _) row_rd) (mget _ (by assumption))) rfl)) rfl ?_ | refine OL.q (Y.load T28 rfl (cellsIs_at (rd_at (Ent.at 5 rfl (Up.rd _ _ _ _) row_rd) (mget _ (by assumption))) rfl)) rfl ?_ | refine OL.q (Y.load T28 rfl (cellsIs_at0 (rd_at (Ent.at 6 rfl (Up.rd _ _ _ _) row_rd) (mget _ (by assumption))) rfl)) rfl ?_ | refine OL.q (Y.load T28 rfl (cellsIs_at (rd_at (Ent.at 6 rfl (Up.rd _ _ _ _) row_rd) (mget _ (by assumption))) rfl)) rfl ?_ | refine OL.q (Y.load T28 rfl (cellsIs_at0 (rd_at (Ent.at 7 rfl (Up.rd _ _ _ _) row_rd) (mget _ (by assumption))) rfl)) rfl ?_ | refine OL.q (Y.load T28 rfl (cellsIs_at (rd_at (Ent.at 7 rfl (Up.rd _ _ _ _) row_rd) (mget _ (by assumption))) rfl)) rfl ?_ | refine OL.q (Y.load T28 rfl (cellsIs_at0 (rd_at (Ent.frame (Up.rd _ _ _ _) (fun h hs => imm_ent (Up.rd _ _ _ _) (by assumption) h (hF h hs))) (mget _ (by assumption))) rfl)) rfl ?_ | refine OL.q (Y.load T28 rfl (cellsIs_at (rd_at (Ent.frame (Up.rd _ _ _ _) (fun h hs => imm_ent (Up.rd _ _ _ _) (by assumption) h (hF h hs))) (mget _ (by assumption))) rfl)) rfl ?_
            refine OL.q (Y.field L32_3 rfl) rfl ?_
            first | refine OL.q (Y.load T3 rfl (Ent.at 0 rfl (Up.cellIs _ _ _) (blk_cell rfl))) rfl ?_ | refine OL.q (Y.load T3 rfl (Ent.at 1 rfl (Up.cellIs _ _ _) (blk_cell rfl))) rfl ?_ | refine OL.q (Y.load T3 rfl (Ent.at 2 rfl (Up.cellIs _ _ _) (blk_cell rfl))) rfl ?_ | refine OL.q (Y.load T3 rfl (Ent.at 3 rfl (Up.cellIs _ _ _) (blk_cell rfl))) rfl ?_ | refine OL.q (Y.load T3 rfl (Ent.at 4 rfl (Up.cellIs _ _ _) (blk_cell rfl))) rfl ?_ | refine OL.q (Y.load T3 rfl (Ent.at 5 rfl (Up.cellIs _ _ _) (blk_cell rfl))) rfl ?_ | refine OL.q (Y.load T3 rfl (Ent.at 6 rfl (Up.cellIs _ _ _) (blk_cell rfl))) rfl ?_ | refine OL.q (Y.load T3 rfl (Ent.at 7 rfl (Up.cellIs _ _ _) (blk_cell rfl))) rfl ?_ | refine OL.q (Y.load T3 rfl (cellsIs_at0 (rd_at (Ent.at 0 rfl (Up.rd _ _ _ _) row_rd) (mget _ (by assumption))) rfl)) rfl ?_ | refine OL.q (Y.load T3 rfl (cellsIs_at (rd_at (Ent.at 0 rfl (Up.rd _ _ _ _) row_rd) (mget _ (by assumption))) rfl)) rfl ?_ | refine OL.q (Y.load T3 rfl (cellsIs_at0 (rd_at (Ent.at 1 rfl (Up.rd _ _ _ _) row_rd) (mget _ (by assumption))) rfl)) rfl ?_ | refine OL.q (Y.load T3 rfl (cellsIs_at (rd_at (Ent.at 1 rfl (Up.rd _ _ _ _) row_rd) (mget _ (by assumption))) rfl)) rfl ?_ | refine OL.q (Y.load T3 rfl (cellsIs_at0 (rd_at (Ent.at 2 rfl (Up.rd _ _ _ _) row_rd) (mget _ (by assumption))) rfl)) rfl ?_ | refine OL.q (Y.load T3 rfl (cellsIs_at (rd_at (Ent.at 2 rfl (Up.rd _ _ _ _) row_rd) (mget _ (by assumption))) rfl)) rfl ?_ | refine OL.q (Y.load T3 rfl (cellsIs_at0 (rd_at (Ent.at 3 rfl (Up.rd _ _ _ _) row_rd) (mget _ (by assumption))) rfl)) rfl ?_ | refine OL.q (Y.load T3 rfl (cellsIs_at (rd_at (Ent.at 3 rfl (Up.rd _ _ _ _) row_rd) (mget _ (by assumption))) rfl)) rfl ?_ | refine OL.q (Y.load T3 rfl (cellsIs_at0 (rd_at (Ent.at 4 rfl (Up.rd _ _ _ _) row_rd) (mget _ (by assumption))) rfl)) rfl ?_ | refine OL.q (Y.load T3 rfl (cellsIs_at (rd_at (Ent.at 4 rfl (Up.rd _ _ _ _) row_rd) (mget _ (by assumption))) rfl)) rfl ?_ | refine OL.q (Y.load T3 rfl (cellsIs_at0 (rd_at (Ent.at 5 rfl (Up.rd _ _ _ _) row_rd) (mget _ (by assumption))) rfl)) rfl ?_ | refine OL.q (Y.load T3 rfl (cellsIs_at (rd_at (Ent.at 5 rfl (Up.rd _ _ _ _) row_rd) (mget _ (by assumption))) rfl)) rfl ?_ | refine OL.q (Y.load T3 rfl (cellsIs_at0 (rd_at (Ent.at 6 rfl (Up.rd _ _ _ _) row_rd) (mget _ (by assumption))) rfl)) rfl ?_ | refine OL.q (Y.load T3 rfl (cellsIs_at (rd_at (Ent.at 6 rfl (Up.rd _ _ _ _) row_rd) (mget _ (by assumption))) rfl)) rfl ?_ | refine OL.q (Y.load T3 rfl (cellsIs_at0 (rd_at (Ent.at 7 rfl (Up.rd _ _ _ _) row_rd) (mget _ (by assumption))) rfl)) rfl ?_ | refine OL.q (Y.load T3 rfl (cellsIs_at (rd_at (Ent.at 7 rfl (Up.rd _ _ _ _) row_rd) (mget _ (by assumption))) rfl)) rfl ?_ | refine OL.q (Y.load T3 rfl (cellsIs_at0 (rd_at (Ent.frame (Up.rd _ _ _ _) (fun h hs => imm_ent (Up.rd _ _ _ _) (by assumption) h (hF h hs))) (mget _ (by assumption))) rfl)) rfl ?_ | refine OL.q (Y.load T3 rfl (cellsIs_at (rd_at (Ent.frame (Up.rd _ _ _ _) (fun h hs => imm_ent (Up.rd _ _ _ _) (by assumption) h (hF h hs))) (mget _ (by assumption))) rfl)) rfl ?_
            refine OL.q (Y.build B38 rfl rfl) rfl ?_
            refine OL.call [0] (Fun_w t A x.name x.a x.n x.c x.args x.result hxl (by omega) (by omega)) Tryd.call17 rfl rfl rfl rfl (Ent.frame (Up.rd _ _ _ _) (fun h hs => imm_ent (Up.rd _ _ _ _) hxr h (hF h hs))) rfl ?_
            rintro _ _ ⟨rfl, rfl⟩
            refine ⟨rfl, rfl, ?_⟩
            refine OL.nil ?_
            refine EX.seq ?_
            refine CW.exit ?_
            refine EX.exitT ?_
            refine EX.exitB ?_
            refine EX.seq ?_
            refine CW.region ?_
            first | refine OL.q (Y.add1 rfl rfl rfl (by omega)) rfl ?_ | refine OL.q (Y.addN rfl rfl (by omega)) rfl ?_ | refine OL.q (Y.add rfl rfl (by omega)) rfl ?_
            refine OL.q (Y.move rfl) rfl ?_
            refine OL.nil ?_
            have hbs := func_bd A ⟨x.name, x.args, x.result⟩
            exact EX.next (k + 1, (A.func ⟨x.name, x.args, x.result⟩).2.2, ys) [0, 1, 2] (by dsimp only; exact ⟨by omega, hG.func _, by rw [func_terms]; exact hys, hyo, by omega, by omega, by omega⟩) (by first | omega | (dsimp only; omega)) ⟨rfl, rfl, rfl, rfl, rfl, trivial⟩ rfl rfl
          · have bh4 := h4
            repeat (first | replace h4 := yes h4 | replace h4 := no h4 | replace h4 := nyes h4 | replace h4 := nno h4)
            refine CW.skip ?_
            refine EX.seq ?_
            refine CW.seq ?_
            refine CW.region ?_
            refine OL.q (Y.move rfl) rfl ?_
            refine OL.call [] (Len_w t A) Tryd.call18 rfl rfl rfl rfl (Ent.at 0 rfl (Up.arena _ _) (fun _ h => h)) rfl ?_
            rintro _ _ ⟨rfl, rfl⟩
            refine ⟨rfl, rfl, ?_⟩
            refine OL.q (Y.assign rfl) rfl ?_
            refine OL.nil ?_
            refine EX.seq ?_
            refine CW.seq ?_
            refine CW.region ?_
            refine OL.q (Y.move rfl) rfl ?_
            refine OL.q (Y.field L32_4 rfl) rfl ?_
            refine OL.q (Y.loadN S30 (vs := termCells x.term) rfl rfl (Ent.at 3 rfl (Up.cellsIs _ _ _) blk_act)) rfl ?_
            refine OL.call [0] (Term_w t A x.term hyl (by omega) (by omega)) Tryd.call19 rfl rfl rfl rfl (Ent.frame (Up.rd _ _ _ _) (fun h hs => imm_ent (Up.rd _ _ _ _) hyr h (hF h hs))) rfl ?_
            rintro _ _ ⟨rfl, rfl⟩
            refine ⟨rfl, rfl, ?_⟩
            refine OL.q (Y.move rfl) rfl ?_
            refine OL.q (Y.extract rfl rfl) rfl ?_
            refine OL.q (Y.extract rfl rfl) rfl ?_
            refine OL.q (Y.assign rfl) rfl ?_
            refine OL.q (Y.assign rfl) rfl ?_
            refine OL.nil ?_
            refine EX.seq ?_
            refine CW.seq ?_
            refine CW.seq ?_
            refine CW.region ?_
            refine OL.q (Y.move rfl) rfl ?_
            refine OL.q (Y.neq rfl rfl) rfl ?_
            refine OL.nil ?_
            refine EX.seq ?_
            refine CW.cond rfl (fun h5 => ?_) (fun h5 => ?_)
            · have bh5 := h5
              repeat (first | replace h5 := yes h5 | replace h5 := no h5 | replace h5 := nyes h5 | replace h5 := nno h5)
              refine CW.seq ?_
              refine CW.seq ?_
              refine CW.region ?_
              refine OL.q (Y.move rfl) rfl ?_
              refine OL.call [] (Len_w t (A.term x.term.q).2.2) Tryd.call18 rfl rfl rfl rfl (Ent.at 0 rfl (Up.arena _ _) (fun _ h => h)) rfl ?_
              rintro _ _ ⟨rfl, rfl⟩
              refine ⟨rfl, rfl, ?_⟩
              refine OL.q (Y.move rfl) rfl ?_
              refine OL.q (Y.neq rfl rfl) rfl ?_
              refine OL.nil ?_
              refine EX.seq ?_
              refine CW.cond rfl (fun h6 => ?_) (fun h6 => ?_)
              · repeat (first | replace h6 := yes h6 | replace h6 := no h6 | replace h6 := nyes h6 | replace h6 := nno h6)
                exfalso
                rw [term_err h5] at h6; exact h6 rfl
              repeat (first | replace h6 := yes h6 | replace h6 := no h6 | replace h6 := nyes h6 | replace h6 := nno h6)
              refine CW.skip ?_
              refine EX.seq ?_
              refine CW.exit ?_
              refine EX.exitT ?_
              refine EX.exitB ?_
              refine EX.seq ?_
              refine CW.region ?_
              first | refine OL.q (Y.add1 rfl rfl rfl (by omega)) rfl ?_ | refine OL.q (Y.addN rfl rfl (by omega)) rfl ?_ | refine OL.q (Y.add rfl rfl (by omega)) rfl ?_
              refine OL.q (Y.move rfl) rfl ?_
              refine OL.nil ?_
              have hte := term_err h5
              exact EX.next (k + 1, A, ys) [0, 1, 2] (by dsimp only; exact ⟨by omega, hG, hys, hyo, by omega, by omega, by omega⟩) (by first | omega | (dsimp only; omega)) ⟨rfl, rfl, rfl, rfl, rfl, trivial⟩ rfl (by show [_, _, _] = [_, _, _]; rw [hte])
            · have bh5 := h5
              repeat (first | replace h5 := yes h5 | replace h5 := no h5 | replace h5 := nyes h5 | replace h5 := nno h5)
              have h5z := Classical.not_not.1 h5
              obtain ⟨m, hm, hml, hkids, hput, hmax, hold, hpl⟩ := term_got hG hys h5z
              have hG2 := hG.term x.term.q
              have hbt := term_bd A x.term.q
              refine CW.skip ?_
              refine EX.seq ?_
              refine CW.seq ?_
              refine CW.seq ?_
              refine CW.region ?_
              refine OL.q (Y.field L32_4 rfl) rfl ?_
              refine OL.q (Y.field L30_2 rfl) rfl ?_
              first | refine OL.q (Y.load T28 rfl (Ent.at 0 rfl (Up.cellIs _ _ _) (blk_cell rfl))) rfl ?_ | refine OL.q (Y.load T28 rfl (Ent.at 1 rfl (Up.cellIs _ _ _) (blk_cell rfl))) rfl ?_ | refine OL.q (Y.load T28 rfl (Ent.at 2 rfl (Up.cellIs _ _ _) (blk_cell rfl))) rfl ?_ | refine OL.q (Y.load T28 rfl (Ent.at 3 rfl (Up.cellIs _ _ _) (blk_cell rfl))) rfl ?_ | refine OL.q (Y.load T28 rfl (Ent.at 4 rfl (Up.cellIs _ _ _) (blk_cell rfl))) rfl ?_ | refine OL.q (Y.load T28 rfl (Ent.at 5 rfl (Up.cellIs _ _ _) (blk_cell rfl))) rfl ?_ | refine OL.q (Y.load T28 rfl (Ent.at 6 rfl (Up.cellIs _ _ _) (blk_cell rfl))) rfl ?_ | refine OL.q (Y.load T28 rfl (Ent.at 7 rfl (Up.cellIs _ _ _) (blk_cell rfl))) rfl ?_ | refine OL.q (Y.load T28 rfl (cellsIs_at0 (rd_at (Ent.at 0 rfl (Up.rd _ _ _ _) row_rd) (mget _ (by assumption))) rfl)) rfl ?_ | refine OL.q (Y.load T28 rfl (cellsIs_at (rd_at (Ent.at 0 rfl (Up.rd _ _ _ _) row_rd) (mget _ (by assumption))) rfl)) rfl ?_ | refine OL.q (Y.load T28 rfl (cellsIs_at0 (rd_at (Ent.at 1 rfl (Up.rd _ _ _ _) row_rd) (mget _ (by assumption))) rfl)) rfl ?_ | refine OL.q (Y.load T28 rfl (cellsIs_at (rd_at (Ent.at 1 rfl (Up.rd _ _ _ _) row_rd) (mget _ (by assumption))) rfl)) rfl ?_ | refine OL.q (Y.load T28 rfl (cellsIs_at0 (rd_at (Ent.at 2 rfl (Up.rd _ _ _ _) row_rd) (mget _ (by assumption))) rfl)) rfl ?_ | refine OL.q (Y.load T28 rfl (cellsIs_at (rd_at (Ent.at 2 rfl (Up.rd _ _ _ _) row_rd) (mget _ (by assumption))) rfl)) rfl ?_ | refine OL.q (Y.load T28 rfl (cellsIs_at0 (rd_at (Ent.at 3 rfl (Up.rd _ _ _ _) row_rd) (mget _ (by assumption))) rfl)) rfl ?_ | refine OL.q (Y.load T28 rfl (cellsIs_at (rd_at (Ent.at 3 rfl (Up.rd _ _ _ _) row_rd) (mget _ (by assumption))) rfl)) rfl ?_ | refine OL.q (Y.load T28 rfl (cellsIs_at0 (rd_at (Ent.at 4 rfl (Up.rd _ _ _ _) row_rd) (mget _ (by assumption))) rfl)) rfl ?_ | refine OL.q (Y.load T28 rfl (cellsIs_at (rd_at (Ent.at 4 rfl (Up.rd _ _ _ _) row_rd) (mget _ (by assumption))) rfl)) rfl ?_ | refine OL.q (Y.load T28 rfl (cellsIs_at0 (rd_at (Ent.at 5 rfl (Up.rd _ _ _ _) row_rd) (mget _ (by assumption))) rfl)) rfl ?_ | refine OL.q (Y.load T28 rfl (cellsIs_at (rd_at (Ent.at 5 rfl (Up.rd _ _ _ _) row_rd) (mget _ (by assumption))) rfl)) rfl ?_ | refine OL.q (Y.load T28 rfl (cellsIs_at0 (rd_at (Ent.at 6 rfl (Up.rd _ _ _ _) row_rd) (mget _ (by assumption))) rfl)) rfl ?_ | refine OL.q (Y.load T28 rfl (cellsIs_at (rd_at (Ent.at 6 rfl (Up.rd _ _ _ _) row_rd) (mget _ (by assumption))) rfl)) rfl ?_ | refine OL.q (Y.load T28 rfl (cellsIs_at0 (rd_at (Ent.at 7 rfl (Up.rd _ _ _ _) row_rd) (mget _ (by assumption))) rfl)) rfl ?_ | refine OL.q (Y.load T28 rfl (cellsIs_at (rd_at (Ent.at 7 rfl (Up.rd _ _ _ _) row_rd) (mget _ (by assumption))) rfl)) rfl ?_ | refine OL.q (Y.load T28 rfl (cellsIs_at0 (rd_at (Ent.frame (Up.rd _ _ _ _) (fun h hs => imm_ent (Up.rd _ _ _ _) (by assumption) h (hF h hs))) (mget _ (by assumption))) rfl)) rfl ?_ | refine OL.q (Y.load T28 rfl (cellsIs_at (rd_at (Ent.frame (Up.rd _ _ _ _) (fun h hs => imm_ent (Up.rd _ _ _ _) (by assumption) h (hF h hs))) (mget _ (by assumption))) rfl)) rfl ?_
              refine OL.q (Y.lenSl Tryd.underlying28 rfl) rfl ?_
              refine OL.q (Y.move rfl) rfl ?_
              refine OL.nil ?_
              refine EX.seq ?_
              refine CW.block ?_
              refine CW.loop (α := Nat) ⟨(fun j => j ≤ x.term.n), (fun j => [(5, Value.pointer (some { block := t, off := 0 })), (6, Value.map (some b29)), (7, Value.int IntKind.i64 ↑k), (8, Value.pointer (some { block := b8, off := 0 })), (9, Value.int IntKind.i64 ↑A.terms.length), (10, Value.int IntKind.i64 (A.term x.term.q).fst), (34, Value.slice a34 (n + n2) c34), (35, Value.int IntKind.i64 ↑(n + n2)), (36, Value.int IntKind.i64 ↑k), (79, Value.slice x.term.a x.term.n x.term.c), (80, Value.int IntKind.i64 ↑x.term.n), (81, .int .i64 j)]), (fun j => [arena t (A.term x.term.q).snd.snd, mapc (Value.int IntKind.i64) b29 (tml 0 ys), row a34 (n + n2) c34 32 8 (List.map actCells (l ++ l2)), blk b8 (setR [Value.int IntKind.i64 0, Value.string { data := #[] }, Value.slice none 0 0, Value.int IntKind.i64 0, Value.int IntKind.i64 0, Value.int IntKind.i64 0, Value.slice none 0 0, Value.string { data := #[] }] 0 (actCells x)) 32])⟩
                (fun j => (x.term.n - j : Nat)) 0 [0, 1, 2, 3] (Nat.zero_le _) ⟨rfl, rfl, rfl, rfl, rfl, rfl, rfl, rfl, rfl, rfl, rfl, rfl, trivial⟩ rfl rfl ?_
              rintro j hj
              dsimp only at hj ⊢
              refine CW.seq ?_
              refine CW.region ?_
              refine OL.q (Y.lss rfl rfl) rfl ?_
              refine OL.nil ?_
              refine EX.seq ?_
              refine CW.seq ?_
              refine CW.cond rfl (fun h7 => ?_) (fun h7 => ?_)
              · have bh7 := h7
                repeat (first | replace h7 := yes h7 | replace h7 := no h7 | replace h7 := nyes h7 | replace h7 := nno h7)
                obtain ⟨z, hz⟩ : ∃ p, x.term.kids[j]? = some p := ⟨_, List.getElem?_eq_getElem (by omega)⟩
                refine CW.skip ?_
                refine EX.seq ?_
                refine CW.seq ?_
                refine CW.block ?_
                refine CW.seq ?_
                refine CW.region ?_
                first | refine OL.q (Y.index Tryd.underlying28 C3 rfl rfl (Ent.at 0 rfl (Up.rd _ _ _ _) row_rd) rfl (by omega)) rfl ?_ | refine OL.q (Y.index Tryd.underlying28 C3 rfl rfl (Ent.at 1 rfl (Up.rd _ _ _ _) row_rd) rfl (by omega)) rfl ?_ | refine OL.q (Y.index Tryd.underlying28 C3 rfl rfl (Ent.at 2 rfl (Up.rd _ _ _ _) row_rd) rfl (by omega)) rfl ?_ | refine OL.q (Y.index Tryd.underlying28 C3 rfl rfl (Ent.at 3 rfl (Up.rd _ _ _ _) row_rd) rfl (by omega)) rfl ?_ | refine OL.q (Y.index Tryd.underlying28 C3 rfl rfl (Ent.at 4 rfl (Up.rd _ _ _ _) row_rd) rfl (by omega)) rfl ?_ | refine OL.q (Y.index Tryd.underlying28 C3 rfl rfl (Ent.at 5 rfl (Up.rd _ _ _ _) row_rd) rfl (by omega)) rfl ?_ | refine OL.q (Y.index Tryd.underlying28 C3 rfl rfl (Ent.at 6 rfl (Up.rd _ _ _ _) row_rd) rfl (by omega)) rfl ?_ | refine OL.q (Y.index Tryd.underlying28 C3 rfl rfl (Ent.at 7 rfl (Up.rd _ _ _ _) row_rd) rfl (by omega)) rfl ?_ | refine OL.q (Y.index Tryd.underlying28 C3 rfl rfl (Ent.frame (Up.rd _ _ _ _) (fun h hs => imm_ent (Up.rd _ _ _ _) (by assumption) h (hF h hs))) rfl (by omega)) rfl ?_
                first | refine OL.q (Y.load T3 rfl (Ent.at 0 rfl (Up.cellIs _ _ _) (blk_cell rfl))) rfl ?_ | refine OL.q (Y.load T3 rfl (Ent.at 1 rfl (Up.cellIs _ _ _) (blk_cell rfl))) rfl ?_ | refine OL.q (Y.load T3 rfl (Ent.at 2 rfl (Up.cellIs _ _ _) (blk_cell rfl))) rfl ?_ | refine OL.q (Y.load T3 rfl (Ent.at 3 rfl (Up.cellIs _ _ _) (blk_cell rfl))) rfl ?_ | refine OL.q (Y.load T3 rfl (Ent.at 4 rfl (Up.cellIs _ _ _) (blk_cell rfl))) rfl ?_ | refine OL.q (Y.load T3 rfl (Ent.at 5 rfl (Up.cellIs _ _ _) (blk_cell rfl))) rfl ?_ | refine OL.q (Y.load T3 rfl (Ent.at 6 rfl (Up.cellIs _ _ _) (blk_cell rfl))) rfl ?_ | refine OL.q (Y.load T3 rfl (Ent.at 7 rfl (Up.cellIs _ _ _) (blk_cell rfl))) rfl ?_ | refine OL.q (Y.load T3 rfl (cellsIs_at0 (rd_at (Ent.at 0 rfl (Up.rd _ _ _ _) row_rd) (mget _ (by assumption))) rfl)) rfl ?_ | refine OL.q (Y.load T3 rfl (cellsIs_at (rd_at (Ent.at 0 rfl (Up.rd _ _ _ _) row_rd) (mget _ (by assumption))) rfl)) rfl ?_ | refine OL.q (Y.load T3 rfl (cellsIs_at0 (rd_at (Ent.at 1 rfl (Up.rd _ _ _ _) row_rd) (mget _ (by assumption))) rfl)) rfl ?_ | refine OL.q (Y.load T3 rfl (cellsIs_at (rd_at (Ent.at 1 rfl (Up.rd _ _ _ _) row_rd) (mget _ (by assumption))) rfl)) rfl ?_ | refine OL.q (Y.load T3 rfl (cellsIs_at0 (rd_at (Ent.at 2 rfl (Up.rd _ _ _ _) row_rd) (mget _ (by assumption))) rfl)) rfl ?_ | refine OL.q (Y.load T3 rfl (cellsIs_at (rd_at (Ent.at 2 rfl (Up.rd _ _ _ _) row_rd) (mget _ (by assumption))) rfl)) rfl ?_ | refine OL.q (Y.load T3 rfl (cellsIs_at0 (rd_at (Ent.at 3 rfl (Up.rd _ _ _ _) row_rd) (mget _ (by assumption))) rfl)) rfl ?_ | refine OL.q (Y.load T3 rfl (cellsIs_at (rd_at (Ent.at 3 rfl (Up.rd _ _ _ _) row_rd) (mget _ (by assumption))) rfl)) rfl ?_ | refine OL.q (Y.load T3 rfl (cellsIs_at0 (rd_at (Ent.at 4 rfl (Up.rd _ _ _ _) row_rd) (mget _ (by assumption))) rfl)) rfl ?_ | refine OL.q (Y.load T3 rfl (cellsIs_at (rd_at (Ent.at 4 rfl (Up.rd _ _ _ _) row_rd) (mget _ (by assumption))) rfl)) rfl ?_ | refine OL.q (Y.load T3 rfl (cellsIs_at0 (rd_at (Ent.at 5 rfl (Up.rd _ _ _ _) row_rd) (mget _ (by assumption))) rfl)) rfl ?_ | refine OL.q (Y.load T3 rfl (cellsIs_at (rd_at (Ent.at 5 rfl (Up.rd _ _ _ _) row_rd) (mget _ (by assumption))) rfl)) rfl ?_ | refine OL.q (Y.load T3 rfl (cellsIs_at0 (rd_at (Ent.at 6 rfl (Up.rd _ _ _ _) row_rd) (mget _ (by assumption))) rfl)) rfl ?_ | refine OL.q (Y.load T3 rfl (cellsIs_at (rd_at (Ent.at 6 rfl (Up.rd _ _ _ _) row_rd) (mget _ (by assumption))) rfl)) rfl ?_ | refine OL.q (Y.load T3 rfl (cellsIs_at0 (rd_at (Ent.at 7 rfl (Up.rd _ _ _ _) row_rd) (mget _ (by assumption))) rfl)) rfl ?_ | refine OL.q (Y.load T3 rfl (cellsIs_at (rd_at (Ent.at 7 rfl (Up.rd _ _ _ _) row_rd) (mget _ (by assumption))) rfl)) rfl ?_ | refine OL.q (Y.load T3 rfl (cellsIs_at0 (rd_at (Ent.frame (Up.rd _ _ _ _) (fun h hs => imm_ent (Up.rd _ _ _ _) (by assumption) h (hF h hs))) (mget _ (by assumption))) rfl)) rfl ?_ | refine OL.q (Y.load T3 rfl (cellsIs_at (rd_at (Ent.frame (Up.rd _ _ _ _) (fun h hs => imm_ent (Up.rd _ _ _ _) (by assumption) h (hF h hs))) (mget _ (by assumption))) rfl)) rfl ?_
                refine OL.q (Y.assign rfl) rfl ?_
                refine OL.nil ?_
                refine EX.seq ?_
                refine CW.seq ?_
                refine CW.region ?_
                refine OL.q (Y.move rfl) rfl ?_
                refine OL.q (Y.move rfl) rfl ?_
                refine OL.q (Y.geq rfl rfl) rfl ?_
                refine OL.nil ?_
                refine EX.seq ?_
                refine CW.cond rfl (fun h8 => ?_) (fun h8 => ?_)
                · repeat (first | replace h8 := yes h8 | replace h8 := no h8 | replace h8 := nyes h8 | replace h8 := nno h8)
                  exfalso
                  have h9 := hkids z (mem_of hz)
                  omega
                repeat (first | replace h8 := yes h8 | replace h8 := no h8 | replace h8 := nyes h8 | replace h8 := nno h8)
                refine CW.skip ?_
                refine EX.norB ?_
                refine EX.seq ?_
                refine CW.region ?_
                first | refine OL.q (Y.add1 rfl rfl rfl (by omega)) rfl ?_ | refine OL.q (Y.addN rfl rfl (by omega)) rfl ?_ | refine OL.q (Y.add rfl rfl (by omega)) rfl ?_
                refine OL.q (Y.move rfl) rfl ?_
                refine OL.nil ?_
                exact EX.next (j + 1) [0, 1, 2, 3] (by first | omega | (dsimp only; omega)) (by first | omega | (dsimp only; omega)) ⟨rfl, rfl, rfl, rfl, rfl, rfl, rfl, rfl, rfl, rfl, rfl, rfl, trivial⟩ rfl rfl
              · have bh7 := h7
                repeat (first | replace h7 := yes h7 | replace h7 := no h7 | replace h7 := nyes h7 | replace h7 := nno h7)
                refine CW.exit ?_
                refine EX.exitT ?_
                refine EX.exitT ?_
                refine EX.exitB ?_
                refine EX.seq ?_
                refine CW.seq ?_
                refine CW.region ?_
                refine OL.q (Y.move rfl) rfl ?_
                refine OL.q (Y.move rfl) rfl ?_
                refine OL.q (Y.termAt (m := m) 1 rfl Tryd.underlying27 (KeyT.int Tryd.underlying3) Tryd.zeroValue30 rfl rfl hm) rfl ?_
                refine OL.q (Y.move rfl) rfl ?_
                refine OL.q (Y.extract rfl rfl) rfl ?_
                refine OL.q (Y.extract rfl rfl) rfl ?_
                refine OL.alloc C30 rfl (fun b14 => ⟨rfl, rfl, ?_⟩)
                first | refine OL.storeAll 0 rfl C30 rfl rfl rfl rfl rfl rfl ⟨rfl, rfl, ?_⟩ | refine OL.storeAll 1 rfl C30 rfl rfl rfl rfl rfl rfl ⟨rfl, rfl, ?_⟩ | refine OL.storeAll 2 rfl C30 rfl rfl rfl rfl rfl rfl ⟨rfl, rfl, ?_⟩ | refine OL.storeAll 3 rfl C30 rfl rfl rfl rfl rfl rfl ⟨rfl, rfl, ?_⟩ | refine OL.storeAll 4 rfl C30 rfl rfl rfl rfl rfl rfl ⟨rfl, rfl, ?_⟩ | refine OL.storeAll 5 rfl C30 rfl rfl rfl rfl rfl rfl ⟨rfl, rfl, ?_⟩ | refine OL.storeAll 6 rfl C30 rfl rfl rfl rfl rfl rfl ⟨rfl, rfl, ?_⟩ | refine OL.storeAll 7 rfl C30 rfl rfl rfl rfl rfl rfl ⟨rfl, rfl, ?_⟩
                refine OL.q (Y.assign rfl) rfl ?_
                refine OL.nil ?_
                refine EX.seq ?_
                refine CW.seq ?_
                refine CW.seq ?_
                have hwas : decide (m < ys.length) = decide ((A.term x.term.q).1 < (A.terms.length : Int)) := by rw [hm, hyl2]; simp
                refine CW.region ?_
                refine OL.q (Y.move rfl) rfl ?_
                refine OL.q (Y.move rfl) rfl ?_
                refine OL.q (Y.move rfl) rfl ?_
                refine OL.q (Y.lss rfl rfl) rfl ?_
                refine OL.q (Y.neqB Tryd.underlying4 rfl rfl) rfl ?_
                refine OL.q (Y.move rfl) rfl ?_
                refine OL.guard (s := 100) rfl (fun g26_5 => ?_) (fun g26_5 => ?_)
                · have ng26_5 := g26_5
                  repeat (first | replace ng26_5 := yes ng26_5 | replace ng26_5 := no ng26_5 | replace ng26_5 := nyes ng26_5 | replace ng26_5 := nno ng26_5)
                  exfalso
                  exact ng26_5 hwas
                · have ng26_5 := g26_5
                  repeat (first | replace ng26_5 := yes ng26_5 | replace ng26_5 := no ng26_5 | replace ng26_5 := nyes ng26_5 | replace ng26_5 := nno ng26_5)
                  refine OL.on g26_5 rfl rfl ?_
                  refine OL.q (Y.move rfl) rfl ?_
                  refine OL.on g26_5 rfl rfl ?_
                  refine OL.q (Y.move rfl) rfl ?_
                  refine OL.guard (s := 102) rfl (fun g26_7 => ?_) (fun g26_7 => ?_)
                  · have ng26_7 := g26_7
                    repeat (first | replace ng26_7 := yes ng26_7 | replace ng26_7 := no ng26_7 | replace ng26_7 := nyes ng26_7 | replace ng26_7 := nno ng26_7)
                    have hmy : m < ys.length := of_decide_eq_true g26_7
                    obtain ⟨y, hy⟩ : ∃ y, ys[m]? = some y := ⟨_, List.getElem?_eq_getElem hmy⟩
                    have hyd : ys.getD m zT = y := by rw [List.getD_eq_getElem?_getD, hy]; rfl
                    have hyq := hold y hy
                    obtain ⟨⟨hzr, hzc, hzl⟩, hz1, hz2⟩ := hyo y (mem_of hy)
                    refine OL.on g26_7 rfl rfl ?_
                    refine OL.q (Y.loadN S30 (vs := termCells (ys.getD m zT)) rfl rfl (Ent.at 4 rfl (Up.cellsIs _ _ _) blk_cells)) rfl ?_
                    refine OL.on g26_7 rfl rfl ?_
                    refine OL.q (Y.field L32_4 rfl) rfl ?_
                    refine OL.on g26_7 rfl rfl ?_
                    refine OL.q (Y.loadN S30 (vs := termCells x.term) rfl rfl (Ent.at 3 rfl (Up.cellsIs _ _ _) blk_act)) rfl ?_
                    refine OL.on g26_7 rfl rfl ?_
                    refine OL.call [] (rsame_any (ys.getD m zT) x.term (by rw [hyd]; exact hzl) hyl (by rw [hyd]; omega)) Tryd.call20 rfl rfl rfl rfl (by rw [hyd]; exact Ent.and (Ent.frame (Up.rd _ _ _ _) (fun h hs => imm_ent (Up.rd _ _ _ _) hzr h (hF h hs))) (Ent.frame (Up.rd _ _ _ _) (fun h hs => imm_ent (Up.rd _ _ _ _) hyr h (hF h hs)))) rfl ?_
                    rw [same_q (by rw [hyd]; exact hyq)]
                    rintro _ _ ⟨rfl, rfl⟩
                    refine ⟨rfl, rfl, ?_⟩
                    refine OL.on g26_7 rfl rfl ?_
                    refine OL.q (Y.not rfl) rfl ?_
                    refine OL.on g26_5 rfl rfl ?_
                    refine OL.q (Y.pickT rfl g26_7 rfl) rfl ?_
                    refine OL.q (Y.pickF rfl g26_5 rfl) rfl ?_
                    refine OL.q (Y.move rfl) rfl ?_
                    refine OL.guard (s := 110) rfl (fun g26_15 => ?_) (fun g26_15 => ?_)
                    · have ng26_15 := g26_15
                      repeat (first | replace ng26_15 := yes ng26_15 | replace ng26_15 := no ng26_15 | replace ng26_15 := nyes ng26_15 | replace ng26_15 := nno ng26_15)
                      exfalso
                      first | omega | contradiction | exact absurd rfl ng26_15 | exact absurd ng26_15 (by simp) | exact absurd ng26_15 (by decide)
                    · have ng26_15 := g26_15
                      repeat (first | replace ng26_15 := yes ng26_15 | replace ng26_15 := no ng26_15 | replace ng26_15 := nyes ng26_15 | replace ng26_15 := nno ng26_15)
                      refine OL.on g26_15 rfl rfl ?_
                      refine OL.q (Y.move rfl) rfl ?_
                      refine OL.on g26_15 rfl rfl ?_
                      refine OL.call [] (Len_w t (A.term x.term.q).2.2) Tryd.call18 rfl rfl rfl rfl (Ent.at 0 rfl (Up.arena _ _) (fun _ h => h)) rfl ?_
                      rintro _ _ ⟨rfl, rfl⟩
                      refine ⟨rfl, rfl, ?_⟩
                      refine OL.on g26_15 rfl rfl ?_
                      refine OL.q (Y.move rfl) rfl ?_
                      refine OL.on g26_15 rfl rfl ?_
                      refine OL.q (Y.move rfl) rfl ?_
                      refine OL.on g26_15 rfl rfl ?_
                      first | refine OL.q (Y.add1 rfl rfl rfl (by omega)) rfl ?_ | refine OL.q (Y.addN rfl rfl (by omega)) rfl ?_ | refine OL.q (Y.add rfl rfl (by omega)) rfl ?_
                      refine OL.on g26_15 rfl rfl ?_
                      refine OL.q (Y.maxI rfl rfl) rfl ?_
                      refine OL.on g26_15 rfl rfl ?_
                      refine OL.q (Y.neq rfl rfl) rfl ?_
                      refine OL.q (Y.pickF rfl g26_15 rfl) rfl ?_
                      refine OL.nil ?_
                      refine EX.seq ?_
                      refine CW.cond rfl (fun h9 => ?_) (fun h9 => ?_)
                      · repeat (first | replace h9 := yes h9 | replace h9 := no h9 | replace h9 := nyes h9 | replace h9 := nno h9)
                        exfalso
                        apply h9; rw [hm, hmax]; split <;> omega
                      repeat (first | replace h9 := yes h9 | replace h9 := no h9 | replace h9 := nyes h9 | replace h9 := nno h9)
                      refine CW.skip ?_
                      refine EX.seq ?_
                      refine CW.seq ?_
                      refine CW.region ?_
                      refine OL.q (Y.move rfl) rfl ?_
                      refine OL.q (Y.move rfl) rfl ?_
                      refine OL.q (Y.field L32_4 rfl) rfl ?_
                      refine OL.q (Y.loadN S30 (vs := termCells x.term) rfl rfl (Ent.at 3 rfl (Up.cellsIs _ _ _) blk_act)) rfl ?_
                      first | refine OL.mapUpdate 0 rfl Tryd.underlying27 (KeyT.int Tryd.underlying3) rfl rfl rfl ⟨rfl, rfl, ?_⟩ | refine OL.mapUpdate 1 rfl Tryd.underlying27 (KeyT.int Tryd.underlying3) rfl rfl rfl ⟨rfl, rfl, ?_⟩ | refine OL.mapUpdate 2 rfl Tryd.underlying27 (KeyT.int Tryd.underlying3) rfl rfl rfl ⟨rfl, rfl, ?_⟩ | refine OL.mapUpdate 3 rfl Tryd.underlying27 (KeyT.int Tryd.underlying3) rfl rfl rfl ⟨rfl, rfl, ?_⟩ | refine OL.mapUpdate 4 rfl Tryd.underlying27 (KeyT.int Tryd.underlying3) rfl rfl rfl ⟨rfl, rfl, ?_⟩ | refine OL.mapUpdate 5 rfl Tryd.underlying27 (KeyT.int Tryd.underlying3) rfl rfl rfl ⟨rfl, rfl, ?_⟩ | refine OL.mapUpdate 6 rfl Tryd.underlying27 (KeyT.int Tryd.underlying3) rfl rfl rfl ⟨rfl, rfl, ?_⟩ | refine OL.mapUpdate 7 rfl Tryd.underlying27 (KeyT.int Tryd.underlying3) rfl rfl rfl ⟨rfl, rfl, ?_⟩
                      refine OL.nil ?_
                      refine EX.seq ?_
                      refine CW.seq ?_
                      rw [show putKey (A.term x.term.q).1 (Value.agg (termCells x.term).toArray) (tml 0 ys) = tml 0 (putT ys m x.term) from by rw [hm]; exact tml_putT hml]
                      have hzo := putT_all (k := m) hyo (⟨⟨hyr, hyc, hyl⟩, hs3, hs4⟩ : x.term.Ok M ∧ x.term.kids.length ≤ 12 ∧ x.term.num.size ≤ 60)
                      generalize putT ys m x.term = zs at hput hpl hzo ⊢
                      refine CW.region ?_
                      refine OL.q (Y.move rfl) rfl ?_
                      refine OL.q (Y.rem rfl rfl (by omega)) rfl ?_
                      refine OL.q (Y.eql rfl rfl) rfl ?_
                      refine OL.nil ?_
                      refine EX.seq ?_
                      refine CW.cond rfl (fun h10 => ?_) (fun h10 => ?_)
                      · have bh10 := h10
                        repeat (first | replace h10 := yes h10 | replace h10 := no h10 | replace h10 := nyes h10 | replace h10 := nno h10)
                        refine CW.seq ?_
                        refine CW.region ?_
                        refine OL.q (Y.move rfl) rfl ?_
                        refine OL.range 1 rfl Tryd.underlying27 rfl rfl (fun r127 => ⟨rfl, rfl, ?_⟩)
                        refine OL.nil ?_
                        refine EX.seq ?_
                        refine CW.block ?_
                        refine CW.loop (α := Nat × Option (Int × Value)) ⟨(fun q_ => q_.1 ≤ (tml 0 zs).length), (fun q_ => [(5, Value.pointer (some { block := t, off := 0 })), (6, Value.map (some b29)), (34, Value.slice a34 (n + n2) c34), (35, Value.int IntKind.i64 ↑(n + n2)), (36, Value.int IntKind.i64 ↑k), (127, Value.pointer (some { block := r127, off := 0 }))]), (fun q_ => [arena t (A.term x.term.q).snd.snd, iterc (Value.int .i64) b29 r127 (tml 0 zs) q_.1 q_.2, row a34 (n + n2) c34 32 8 (List.map actCells (l ++ l2)), blk b8 (setR [Value.int IntKind.i64 0, Value.string { data := #[] }, Value.slice none 0 0, Value.int IntKind.i64 0, Value.int IntKind.i64 0, Value.int IntKind.i64 0, Value.slice none 0 0, Value.string { data := #[] }] 0 (actCells x)) 32, blk b14 (setR [Value.int IntKind.i64 0, Value.int IntKind.i64 0, Value.slice none 0 0, Value.string { data := #[] }] 0 (termCells (ys.getD m zT))) 30])⟩
                          (fun q_ => (q_.1 : Nat)) ((tml 0 zs).length, none) [0, 1, 2, 3, 4] (Nat.le_refl _) ⟨rfl, rfl, rfl, rfl, rfl, rfl, trivial⟩ rfl rfl ?_
                        rintro ⟨kk, lst⟩ hkk
                        dsimp only at hkk ⊢
                        refine CW.seq ?_
                        refine CW.region ?_
                        refine OL.nextU 1 rfl rfl rfl (fun pn kk2 lst2 hnx => ⟨rfl, rfl, ?_⟩)
                        refine OL.q (Y.extract (vs := nextA pn) rfl (nextA_ok pn)) rfl ?_
                        refine OL.nil ?_
                        refine EX.seq ?_
                        refine CW.seq ?_
                        refine CW.cond rfl (fun h11 => ?_) (fun h11 => ?_)
                        · have bh11 := h11
                          repeat (first | replace h11 := yes h11 | replace h11 := no h11 | replace h11 := nyes h11 | replace h11 := nno h11)
                          obtain ⟨pq, rfl⟩ := Option.isSome_iff_exists.1 h11
                          obtain ⟨hpm, hk2, rfl⟩ := hnx pq rfl
                          obtain ⟨q, y, hy, rfl⟩ := mem_tml0 hpm
                          obtain ⟨⟨hzr, hzc, hzl⟩, hz1, hz2⟩ := hzo y (mem_of hy)
                          have hyq : (A.term x.term.q).2.2.terms[q]? = some y.q := by rw [← hput]; exact mget TermC.q hy
                          refine CW.skip ?_
                          refine EX.seq ?_
                          refine CW.block ?_
                          refine CW.seq ?_
                          refine CW.region ?_
                          refine OL.q (Y.entry 1 rfl rfl) rfl ?_
                          refine OL.q (Y.extract rfl rfl) rfl ?_
                          refine OL.q (Y.extract rfl rfl) rfl ?_
                          refine OL.alloc C30 rfl (fun b17 => ⟨rfl, rfl, ?_⟩)
                          refine OL.q (Y.assign rfl) rfl ?_
                          first | refine OL.storeAll 0 rfl C30 rfl rfl rfl rfl rfl rfl ⟨rfl, rfl, ?_⟩ | refine OL.storeAll 1 rfl C30 rfl rfl rfl rfl rfl rfl ⟨rfl, rfl, ?_⟩ | refine OL.storeAll 2 rfl C30 rfl rfl rfl rfl rfl rfl ⟨rfl, rfl, ?_⟩ | refine OL.storeAll 3 rfl C30 rfl rfl rfl rfl rfl rfl ⟨rfl, rfl, ?_⟩ | refine OL.storeAll 4 rfl C30 rfl rfl rfl rfl rfl rfl ⟨rfl, rfl, ?_⟩ | refine OL.storeAll 5 rfl C30 rfl rfl rfl rfl rfl rfl ⟨rfl, rfl, ?_⟩ | refine OL.storeAll 6 rfl C30 rfl rfl rfl rfl rfl rfl ⟨rfl, rfl, ?_⟩ | refine OL.storeAll 7 rfl C30 rfl rfl rfl rfl rfl rfl ⟨rfl, rfl, ?_⟩
                          refine OL.nil ?_
                          refine EX.seq ?_
                          refine CW.seq ?_
                          refine CW.region ?_
                          refine OL.q (Y.move rfl) rfl ?_
                          first | refine OL.q (Y.loadN S30 rfl rfl (Ent.at 0 rfl (Up.cellsIs _ _ _) blk_cells)) rfl ?_ | refine OL.q (Y.loadN S30 rfl rfl (Ent.at 1 rfl (Up.cellsIs _ _ _) blk_cells)) rfl ?_ | refine OL.q (Y.loadN S30 rfl rfl (Ent.at 2 rfl (Up.cellsIs _ _ _) blk_cells)) rfl ?_ | refine OL.q (Y.loadN S30 rfl rfl (Ent.at 3 rfl (Up.cellsIs _ _ _) blk_cells)) rfl ?_ | refine OL.q (Y.loadN S30 rfl rfl (Ent.at 4 rfl (Up.cellsIs _ _ _) blk_cells)) rfl ?_ | refine OL.q (Y.loadN S30 rfl rfl (Ent.at 5 rfl (Up.cellsIs _ _ _) blk_cells)) rfl ?_ | refine OL.q (Y.loadN S30 rfl rfl (Ent.at 6 rfl (Up.cellsIs _ _ _) blk_cells)) rfl ?_ | refine OL.q (Y.loadN S30 rfl rfl (Ent.at 7 rfl (Up.cellsIs _ _ _) blk_cells)) rfl ?_ | refine OL.q (Y.loadN S30 rfl rfl (rd_at (Ent.at 0 rfl (Up.rd _ _ _ _) row_rd) (mget _ (by assumption)))) rfl ?_ | refine OL.q (Y.loadN S30 rfl rfl (rd_at (Ent.at 1 rfl (Up.rd _ _ _ _) row_rd) (mget _ (by assumption)))) rfl ?_ | refine OL.q (Y.loadN S30 rfl rfl (rd_at (Ent.at 2 rfl (Up.rd _ _ _ _) row_rd) (mget _ (by assumption)))) rfl ?_ | refine OL.q (Y.loadN S30 rfl rfl (rd_at (Ent.at 3 rfl (Up.rd _ _ _ _) row_rd) (mget _ (by assumption)))) rfl ?_ | refine OL.q (Y.loadN S30 rfl rfl (rd_at (Ent.at 4 rfl (Up.rd _ _ _ _) row_rd) (mget _ (by assumption)))) rfl ?_ | refine OL.q (Y.loadN S30 rfl rfl (rd_at (Ent.at 5 rfl (Up.rd _ _ _ _) row_rd) (mget _ (by assumption)))) rfl ?_ | refine OL.q (Y.loadN S30 rfl rfl (rd_at (Ent.at 6 rfl (Up.rd _ _ _ _) row_rd) (mget _ (by assumption)))) rfl ?_ | refine OL.q (Y.loadN S30 rfl rfl (rd_at (Ent.at 7 rfl (Up.rd _ _ _ _) row_rd) (mget _ (by assumption)))) rfl ?_ | refine OL.q (Y.loadN S30 rfl rfl (rd_at (Ent.frame (Up.rd _ _ _ _) (fun h hs => imm_ent (Up.rd _ _ _ _) (by assumption) h (hF h hs))) (mget _ (by assumption)))) rfl ?_
                          refine OL.call [0] (Term_w t (A.term x.term.q).2.2 y hzl (by omega) (by omega)) Tryd.call19 rfl rfl rfl rfl (Ent.frame (Up.rd _ _ _ _) (fun h hs => imm_ent (Up.rd _ _ _ _) hzr h (hF h hs))) rfl ?_
                          rw [hG2.again hyq]
                          rintro _ _ ⟨rfl, rfl⟩
                          refine ⟨rfl, rfl, ?_⟩
                          refine OL.q (Y.move rfl) rfl ?_
                          refine OL.q (Y.extract rfl rfl) rfl ?_
                          refine OL.q (Y.extract rfl rfl) rfl ?_
                          refine OL.q (Y.assign rfl) rfl ?_
                          refine OL.q (Y.assign rfl) rfl ?_
                          refine OL.nil ?_
                          refine EX.seq ?_
                          refine CW.seq ?_
                          refine CW.region ?_
                          refine OL.q (Y.move rfl) rfl ?_
                          refine OL.q (Y.neq rfl rfl) rfl ?_
                          refine OL.q (Y.move rfl) rfl ?_
                          refine OL.guard (s := 141) rfl (fun g34_2 => ?_) (fun g34_2 => ?_)
                          · have ng34_2 := g34_2
                            repeat (first | replace ng34_2 := yes ng34_2 | replace ng34_2 := no ng34_2 | replace ng34_2 := nyes ng34_2 | replace ng34_2 := nno ng34_2)
                            exfalso
                            exact ng34_2 rfl
                          · have ng34_2 := g34_2
                            repeat (first | replace ng34_2 := yes ng34_2 | replace ng34_2 := no ng34_2 | replace ng34_2 := nyes ng34_2 | replace ng34_2 := nno ng34_2)
                            refine OL.on g34_2 rfl rfl ?_
                            refine OL.q (Y.move rfl) rfl ?_
                            refine OL.on g34_2 rfl rfl ?_
                            refine OL.q (Y.move rfl) rfl ?_
                            refine OL.on g34_2 rfl rfl ?_
                            refine OL.q (Y.neq rfl rfl) rfl ?_
                            refine OL.q (Y.pickF rfl g34_2 rfl) rfl ?_
                            refine OL.nil ?_
                            refine EX.seq ?_
                            refine CW.cond rfl (fun h12 => ?_) (fun h12 => ?_)
                            · repeat (first | replace h12 := yes h12 | replace h12 := no h12 | replace h12 := nyes h12 | replace h12 := nno h12)
                              exfalso
                              exact h12 rfl
                            repeat (first | replace h12 := yes h12 | replace h12 := no h12 | replace h12 := nyes h12 | replace h12 := nno h12)
                            refine CW.skip ?_
                            refine EX.norB ?_
                            exact EX.next (kk2, some ((q : Int), termVal y)) [0, 1, 2, 3, 4] (by first | omega | (dsimp only; omega)) (by first | omega | (dsimp only; omega)) ⟨rfl, rfl, rfl, rfl, rfl, rfl, trivial⟩ rfl rfl
                        · have bh11 := h11
                          repeat (first | replace h11 := yes h11 | replace h11 := no h11 | replace h11 := nyes h11 | replace h11 := nno h11)
                          refine CW.exit ?_
                          refine EX.exitT ?_
                          refine EX.exitT ?_
                          refine EX.exitB ?_
                          refine EX.norB ?_
                          refine EX.seq ?_
                          refine CW.region ?_
                          first | refine OL.q (Y.add1 rfl rfl rfl (by omega)) rfl ?_ | refine OL.q (Y.addN rfl rfl (by omega)) rfl ?_ | refine OL.q (Y.add rfl rfl (by omega)) rfl ?_
                          refine OL.q (Y.move rfl) rfl ?_
                          refine OL.nil ?_
                          refine EX.iterMap 1 rfl ?_
                          exact EX.next (k + 1, (A.term x.term.q).2.2, zs) [0, 1, 2] (by dsimp only; exact ⟨by omega, hG2, hput, hzo, by omega, by omega, by omega⟩) (by first | omega | (dsimp only; omega)) ⟨rfl, rfl, rfl, rfl, rfl, trivial⟩ rfl rfl
                      · have bh10 := h10
                        repeat (first | replace h10 := yes h10 | replace h10 := no h10 | replace h10 := nyes h10 | replace h10 := nno h10)
                        refine CW.skip ?_
                        refine EX.norB ?_
                        refine EX.seq ?_
                        refine CW.region ?_
                        first | refine OL.q (Y.add1 rfl rfl rfl (by omega)) rfl ?_ | refine OL.q (Y.addN rfl rfl (by omega)) rfl ?_ | refine OL.q (Y.add rfl rfl (by omega)) rfl ?_
                        refine OL.q (Y.move rfl) rfl ?_
                        refine OL.nil ?_
                        exact EX.next (k + 1, (A.term x.term.q).2.2, zs) [0, 1, 2] (by dsimp only; exact ⟨by omega, hG2, hput, hzo, by omega, by omega, by omega⟩) (by first | omega | (dsimp only; omega)) ⟨rfl, rfl, rfl, rfl, rfl, trivial⟩ rfl rfl
                  · have ng26_7 := g26_7
                    repeat (first | replace ng26_7 := yes ng26_7 | replace ng26_7 := no ng26_7 | replace ng26_7 := nyes ng26_7 | replace ng26_7 := nno ng26_7)
                    refine OL.no g26_7 rfl rfl rfl ?_
                    refine OL.no g26_7 rfl rfl rfl ?_
                    refine OL.no g26_7 rfl rfl rfl ?_
                    refine OL.no g26_7 rfl rfl rfl ?_
                    refine OL.no g26_7 rfl rfl rfl ?_
                    refine OL.on g26_5 rfl rfl ?_
                    refine OL.q (Y.pickF rfl g26_7 rfl) rfl ?_
                    refine OL.q (Y.pickF rfl g26_5 rfl) rfl ?_
                    refine OL.q (Y.move rfl) rfl ?_
                    have g26_15 : false = false := rfl
                    refine OL.on g26_15 rfl rfl ?_
                    refine OL.q (Y.move rfl) rfl ?_
                    refine OL.on g26_15 rfl rfl ?_
                    refine OL.call [] (Len_w t (A.term x.term.q).2.2) Tryd.call18 rfl rfl rfl rfl (Ent.at 0 rfl (Up.arena _ _) (fun _ h => h)) rfl ?_
                    rintro _ _ ⟨rfl, rfl⟩
                    refine ⟨rfl, rfl, ?_⟩
                    refine OL.on g26_15 rfl rfl ?_
                    refine OL.q (Y.move rfl) rfl ?_
                    refine OL.on g26_15 rfl rfl ?_
                    refine OL.q (Y.move rfl) rfl ?_
                    refine OL.on g26_15 rfl rfl ?_
                    first | refine OL.q (Y.add1 rfl rfl rfl (by omega)) rfl ?_ | refine OL.q (Y.addN rfl rfl (by omega)) rfl ?_ | refine OL.q (Y.add rfl rfl (by omega)) rfl ?_
                    refine OL.on g26_15 rfl rfl ?_
                    refine OL.q (Y.maxI rfl rfl) rfl ?_
                    refine OL.on g26_15 rfl rfl ?_
                    refine OL.q (Y.neq rfl rfl) rfl ?_
                    refine OL.q (Y.pickF rfl g26_15 rfl) rfl ?_
                    refine OL.nil ?_
                    refine EX.seq ?_
                    refine CW.cond rfl (fun h9 => ?_) (fun h9 => ?_)
                    · repeat (first | replace h9 := yes h9 | replace h9 := no h9 | replace h9 := nyes h9 | replace h9 := nno h9)
                      exfalso
                      apply h9; rw [hm, hmax]; split <;> omega
                    repeat (first | replace h9 := yes h9 | replace h9 := no h9 | replace h9 := nyes h9 | replace h9 := nno h9)
                    refine CW.skip ?_
                    refine EX.seq ?_
                    refine CW.seq ?_
                    refine CW.region ?_
                    refine OL.q (Y.move rfl) rfl ?_
                    refine OL.q (Y.move rfl) rfl ?_
                    refine OL.q (Y.field L32_4 rfl) rfl ?_
                    refine OL.q (Y.loadN S30 (vs := termCells x.term) rfl rfl (Ent.at 3 rfl (Up.cellsIs _ _ _) blk_act)) rfl ?_
                    first | refine OL.mapUpdate 0 rfl Tryd.underlying27 (KeyT.int Tryd.underlying3) rfl rfl rfl ⟨rfl, rfl, ?_⟩ | refine OL.mapUpdate 1 rfl Tryd.underlying27 (KeyT.int Tryd.underlying3) rfl rfl rfl ⟨rfl, rfl, ?_⟩ | refine OL.mapUpdate 2 rfl Tryd.underlying27 (KeyT.int Tryd.underlying3) rfl rfl rfl ⟨rfl, rfl, ?_⟩ | refine OL.mapUpdate 3 rfl Tryd.underlying27 (KeyT.int Tryd.underlying3) rfl rfl rfl ⟨rfl, rfl, ?_⟩ | refine OL.mapUpdate 4 rfl Tryd.underlying27 (KeyT.int Tryd.underlying3) rfl rfl rfl ⟨rfl, rfl, ?_⟩ | refine OL.mapUpdate 5 rfl Tryd.underlying27 (KeyT.int Tryd.underlying3) rfl rfl rfl ⟨rfl, rfl, ?_⟩ | refine OL.mapUpdate 6 rfl Tryd.underlying27 (KeyT.int Tryd.underlying3) rfl rfl rfl ⟨rfl, rfl, ?_⟩ | refine OL.mapUpdate 7 rfl Tryd.underlying27 (KeyT.int Tryd.underlying3) rfl rfl rfl ⟨rfl, rfl, ?_⟩
                    refine OL.nil ?_
                    refine EX.seq ?_
                    refine CW.seq ?_
                    rw [show putKey (A.term x.term.q).1 (Value.agg (termCells x.term).toArray) (tml 0 ys) = tml 0 (putT ys m x.term) from by rw [hm]; exact tml_putT hml]
                    have hzo := putT_all (k := m) hyo (⟨⟨hyr, hyc, hyl⟩, hs3, hs4⟩ : x.term.Ok M ∧ x.term.kids.length ≤ 12 ∧ x.term.num.size ≤ 60)
                    generalize putT ys m x.term = zs at hput hpl hzo ⊢
                    refine CW.region ?_
                    refine OL.q (Y.move rfl) rfl ?_
                    refine OL.q (Y.rem rfl rfl (by omega)) rfl ?_
                    refine OL.q (Y.eql rfl rfl) rfl ?_
                    refine OL.nil ?_
                    refine EX.seq ?_
                    refine CW.cond rfl (fun h10 => ?_) (fun h10 => ?_)
                    · have bh10 := h10
                      repeat (first | replace h10 := yes h10 | replace h10 := no h10 | replace h10 := nyes h10 | replace h10 := nno h10)
                      refine CW.seq ?_
                      refine CW.region ?_
                      refine OL.q (Y.move rfl) rfl ?_
                      refine OL.range 1 rfl Tryd.underlying27 rfl rfl (fun r127 => ⟨rfl, rfl, ?_⟩)
                      refine OL.nil ?_
                      refine EX.seq ?_
                      refine CW.block ?_
                      refine CW.loop (α := Nat × Option (Int × Value)) ⟨(fun q_ => q_.1 ≤ (tml 0 zs).length), (fun q_ => [(5, Value.pointer (some { block := t, off := 0 })), (6, Value.map (some b29)), (34, Value.slice a34 (n + n2) c34), (35, Value.int IntKind.i64 ↑(n + n2)), (36, Value.int IntKind.i64 ↑k), (127, Value.pointer (some { block := r127, off := 0 }))]), (fun q_ => [arena t (A.term x.term.q).snd.snd, iterc (Value.int .i64) b29 r127 (tml 0 zs) q_.1 q_.2, row a34 (n + n2) c34 32 8 (List.map actCells (l ++ l2)), blk b8 (setR [Value.int IntKind.i64 0, Value.string { data := #[] }, Value.slice none 0 0, Value.int IntKind.i64 0, Value.int IntKind.i64 0, Value.int IntKind.i64 0, Value.slice none 0 0, Value.string { data := #[] }] 0 (actCells x)) 32, blk b14 (setR [Value.int IntKind.i64 0, Value.int IntKind.i64 0, Value.slice none 0 0, Value.string { data := #[] }] 0 (termCells (ys.getD m zT))) 30])⟩
                        (fun q_ => (q_.1 : Nat)) ((tml 0 zs).length, none) [0, 1, 2, 3, 4] (Nat.le_refl _) ⟨rfl, rfl, rfl, rfl, rfl, rfl, trivial⟩ rfl rfl ?_
                      rintro ⟨kk, lst⟩ hkk
                      dsimp only at hkk ⊢
                      refine CW.seq ?_
                      refine CW.region ?_
                      refine OL.nextU 1 rfl rfl rfl (fun pn kk2 lst2 hnx => ⟨rfl, rfl, ?_⟩)
                      refine OL.q (Y.extract (vs := nextA pn) rfl (nextA_ok pn)) rfl ?_
                      refine OL.nil ?_
                      refine EX.seq ?_
                      refine CW.seq ?_
                      refine CW.cond rfl (fun h11 => ?_) (fun h11 => ?_)
                      · have bh11 := h11
                        repeat (first | replace h11 := yes h11 | replace h11 := no h11 | replace h11 := nyes h11 | replace h11 := nno h11)
                        obtain ⟨pq, rfl⟩ := Option.isSome_iff_exists.1 h11
                        obtain ⟨hpm, hk2, rfl⟩ := hnx pq rfl
                        obtain ⟨q, y, hy, rfl⟩ := mem_tml0 hpm
                        obtain ⟨⟨hzr, hzc, hzl⟩, hz1, hz2⟩ := hzo y (mem_of hy)
                        have hyq : (A.term x.term.q).2.2.terms[q]? = some y.q := by rw [← hput]; exact mget TermC.q hy
                        refine CW.skip ?_
                        refine EX.seq ?_
                        refine CW.block ?_
                        refine CW.seq ?_
                        refine CW.region ?_
                        refine OL.q (Y.entry 1 rfl rfl) rfl ?_
                        refine OL.q (Y.extract rfl rfl) rfl ?_
                        refine OL.q (Y.extract rfl rfl) rfl ?_
                        refine OL.alloc C30 rfl (fun b17 => ⟨rfl, rfl, ?_⟩)
                        refine OL.q (Y.assign rfl) rfl ?_
                        first | refine OL.storeAll 0 rfl C30 rfl rfl rfl rfl rfl rfl ⟨rfl, rfl, ?_⟩ | refine OL.storeAll 1 rfl C30 rfl rfl rfl rfl rfl rfl ⟨rfl, rfl, ?_⟩ | refine OL.storeAll 2 rfl C30 rfl rfl rfl rfl rfl rfl ⟨rfl, rfl, ?_⟩ | refine OL.storeAll 3 rfl C30 rfl rfl rfl rfl rfl rfl ⟨rfl, rfl, ?_⟩ | refine OL.storeAll 4 rfl C30 rfl rfl rfl rfl rfl rfl ⟨rfl, rfl, ?_⟩ | refine OL.storeAll 5 rfl C30 rfl rfl rfl rfl rfl rfl ⟨rfl, rfl, ?_⟩ | refine OL.storeAll 6 rfl C30 rfl rfl rfl rfl rfl rfl ⟨rfl, rfl, ?_⟩ | refine OL.storeAll 7 rfl C30 rfl rfl rfl rfl rfl rfl ⟨rfl, rfl, ?_⟩
                        refine OL.nil ?_
                        refine EX.seq ?_
                        refine CW.seq ?_
                        refine CW.region ?_
                        refine OL.q (Y.move rfl) rfl ?_
                        first | refine OL.q (Y.loadN S30 rfl rfl (Ent.at 0 rfl (Up.cellsIs _ _ _) blk_cells)) rfl ?_ | refine OL.q (Y.loadN S30 rfl rfl (Ent.at 1 rfl (Up.cellsIs _ _ _) blk_cells)) rfl ?_ | refine OL.q (Y.loadN S30 rfl rfl (Ent.at 2 rfl (Up.cellsIs _ _ _) blk_cells)) rfl ?_ | refine OL.q (Y.loadN S30 rfl rfl (Ent.at 3 rfl (Up.cellsIs _ _ _) blk_cells)) rfl ?_ | refine OL.q (Y.loadN S30 rfl rfl (Ent.at 4 rfl (Up.cellsIs _ _ _) blk_cells)) rfl ?_ | refine OL.q (Y.loadN S30 rfl rfl (Ent.at 5 rfl (Up.cellsIs _ _ _) blk_cells)) rfl ?_ | refine OL.q (Y.loadN S30 rfl rfl (Ent.at 6 rfl (Up.cellsIs _ _ _) blk_cells)) rfl ?_ | refine OL.q (Y.loadN S30 rfl rfl (Ent.at 7 rfl (Up.cellsIs _ _ _) blk_cells)) rfl ?_ | refine OL.q (Y.loadN S30 rfl rfl (rd_at (Ent.at 0 rfl (Up.rd _ _ _ _) row_rd) (mget _ (by assumption)))) rfl ?_ | refine OL.q (Y.loadN S30 rfl rfl (rd_at (Ent.at 1 rfl (Up.rd _ _ _ _) row_rd) (mget _ (by assumption)))) rfl ?_ | refine OL.q (Y.loadN S30 rfl rfl (rd_at (Ent.at 2 rfl (Up.rd _ _ _ _) row_rd) (mget _ (by assumption)))) rfl ?_ | refine OL.q (Y.loadN S30 rfl rfl (rd_at (Ent.at 3 rfl (Up.rd _ _ _ _) row_rd) (mget _ (by assumption)))) rfl ?_ | refine OL.q (Y.loadN S30 rfl rfl (rd_at (Ent.at 4 rfl (Up.rd _ _ _ _) row_rd) (mget _ (by assumption)))) rfl ?_ | refine OL.q (Y.loadN S30 rfl rfl (rd_at (Ent.at 5 rfl (Up.rd _ _ _ _) row_rd) (mget _ (by assumption)))) rfl ?_ | refine OL.q (Y.loadN S30 rfl rfl (rd_at (Ent.at 6 rfl (Up.rd _ _ _ _) row_rd) (mget _ (by assumption)))) rfl ?_ | refine OL.q (Y.loadN S30 rfl rfl (rd_at (Ent.at 7 rfl (Up.rd _ _ _ _) row_rd) (mget _ (by assumption)))) rfl ?_ | refine OL.q (Y.loadN S30 rfl rfl (rd_at (Ent.frame (Up.rd _ _ _ _) (fun h hs => imm_ent (Up.rd _ _ _ _) (by assumption) h (hF h hs))) (mget _ (by assumption)))) rfl ?_
                        refine OL.call [0] (Term_w t (A.term x.term.q).2.2 y hzl (by omega) (by omega)) Tryd.call19 rfl rfl rfl rfl (Ent.frame (Up.rd _ _ _ _) (fun h hs => imm_ent (Up.rd _ _ _ _) hzr h (hF h hs))) rfl ?_
                        rw [hG2.again hyq]
                        rintro _ _ ⟨rfl, rfl⟩
                        refine ⟨rfl, rfl, ?_⟩
                        refine OL.q (Y.move rfl) rfl ?_
                        refine OL.q (Y.extract rfl rfl) rfl ?_
                        refine OL.q (Y.extract rfl rfl) rfl ?_
                        refine OL.q (Y.assign rfl) rfl ?_
                        refine OL.q (Y.assign rfl) rfl ?_
                        refine OL.nil ?_
                        refine EX.seq ?_
                        refine CW.seq ?_
                        refine CW.region ?_
                        refine OL.q (Y.move rfl) rfl ?_
                        refine OL.q (Y.neq rfl rfl) rfl ?_
                        refine OL.q (Y.move rfl) rfl ?_
                        refine OL.guard (s := 141) rfl (fun g34_2 => ?_) (fun g34_2 => ?_)
                        · have ng34_2 := g34_2
                          repeat (first | replace ng34_2 := yes ng34_2 | replace ng34_2 := no ng34_2 | replace ng34_2 := nyes ng34_2 | replace ng34_2 := nno ng34_2)
                          exfalso
                          exact ng34_2 rfl
                        · have ng34_2 := g34_2
                          repeat (first | replace ng34_2 := yes ng34_2 | replace ng34_2 := no ng34_2 | replace ng34_2 := nyes ng34_2 | replace ng34_2 := nno ng34_2)
                          refine OL.on g34_2 rfl rfl ?_
                          refine OL.q (Y.move rfl) rfl ?_
                          refine OL.on g34_2 rfl rfl ?_
                          refine OL.q (Y.move rfl) rfl ?_
                          refine OL.on g34_2 rfl rfl ?_
                          refine OL.q (Y.neq rfl rfl) rfl ?_
                          refine OL.q (Y.pickF rfl g34_2 rfl) rfl ?_
                          refine OL.nil ?_
                          refine EX.seq ?_
                          refine CW.cond rfl (fun h12 => ?_) (fun h12 => ?_)
                          · repeat (first | replace h12 := yes h12 | replace h12 := no h12 | replace h12 := nyes h12 | replace h12 := nno h12)
                            exfalso
                            exact h12 rfl
                          repeat (first | replace h12 := yes h12 | replace h12 := no h12 | replace h12 := nyes h12 | replace h12 := nno h12)
                          refine CW.skip ?_
                          refine EX.norB ?_
                          exact EX.next (kk2, some ((q : Int), termVal y)) [0, 1, 2, 3, 4] (by first | omega | (dsimp only; omega)) (by first | omega | (dsimp only; omega)) ⟨rfl, rfl, rfl, rfl, rfl, rfl, trivial⟩ rfl rfl
                      · have bh11 := h11
                        repeat (first | replace h11 := yes h11 | replace h11 := no h11 | replace h11 := nyes h11 | replace h11 := nno h11)
                        refine CW.exit ?_
                        refine EX.exitT ?_
                        refine EX.exitT ?_
                        refine EX.exitB ?_
                        refine EX.norB ?_
                        refine EX.seq ?_
                        refine CW.region ?_
                        first | refine OL.q (Y.add1 rfl rfl rfl (by omega)) rfl ?_ | refine OL.q (Y.addN rfl rfl (by omega)) rfl ?_ | refine OL.q (Y.add rfl rfl (by omega)) rfl ?_
                        refine OL.q (Y.move rfl) rfl ?_
                        refine OL.nil ?_
                        refine EX.iterMap 1 rfl ?_
                        exact EX.next (k + 1, (A.term x.term.q).2.2, zs) [0, 1, 2] (by dsimp only; exact ⟨by omega, hG2, hput, hzo, by omega, by omega, by omega⟩) (by first | omega | (dsimp only; omega)) ⟨rfl, rfl, rfl, rfl, rfl, trivial⟩ rfl rfl
                    · have bh10 := h10
                      repeat (first | replace h10 := yes h10 | replace h10 := no h10 | replace h10 := nyes h10 | replace h10 := nno h10)
                      refine CW.skip ?_
                      refine EX.norB ?_
                      refine EX.seq ?_
                      refine CW.region ?_
                      first | refine OL.q (Y.add1 rfl rfl rfl (by omega)) rfl ?_ | refine OL.q (Y.addN rfl rfl (by omega)) rfl ?_ | refine OL.q (Y.add rfl rfl (by omega)) rfl ?_
                      refine OL.q (Y.move rfl) rfl ?_
                      refine OL.nil ?_
                      exact EX.next (k + 1, (A.term x.term.q).2.2, zs) [0, 1, 2] (by dsimp only; exact ⟨by omega, hG2, hput, hzo, by omega, by omega, by omega⟩) (by first | omega | (dsimp only; omega)) ⟨rfl, rfl, rfl, rfl, rfl, trivial⟩ rfl rfl
      · have bh2 := h2
        repeat (first | replace h2 := yes h2 | replace h2 := no h2 | replace h2 := nyes h2 | replace h2 := nno h2)
        have hkn : n + n2 = k := by omega
        have hyl2 : ys.length = A.terms.length := by rw [← hys]; simp
        refine CW.exit ?_
        refine EX.exitT ?_
        refine EX.exitT ?_
        refine EX.exitB ?_
        refine EX.seq ?_
        refine CW.seq ?_
        refine CW.region ?_
        refine OL.q (Y.move rfl) rfl ?_
        first | refine OL.q (Y.lenMap 0 rfl Tryd.underlying27 rfl) rfl ?_ | refine OL.q (Y.lenMap 1 rfl Tryd.underlying27 rfl) rfl ?_ | refine OL.q (Y.lenMap 2 rfl Tryd.underlying27 rfl) rfl ?_ | refine OL.q (Y.lenMap 3 rfl Tryd.underlying27 rfl) rfl ?_ | refine OL.q (Y.lenMap 4 rfl Tryd.underlying27 rfl) rfl ?_ | refine OL.q (Y.lenMap 5 rfl Tryd.underlying27 rfl) rfl ?_ | refine OL.q (Y.lenMap 6 rfl Tryd.underlying27 rfl) rfl ?_ | refine OL.q (Y.lenMap 7 rfl Tryd.underlying27 rfl) rfl ?_
        refine OL.q (Y.move rfl) rfl ?_
        refine OL.call [] (Len_w t A) Tryd.call18 rfl rfl rfl rfl (Ent.at 0 rfl (Up.arena _ _) (fun _ h => h)) rfl ?_
        rintro _ _ ⟨rfl, rfl⟩
        refine ⟨rfl, rfl, ?_⟩
        refine OL.q (Y.eql rfl rfl) rfl ?_
        refine OL.q (Y.assign rfl) rfl ?_
        refine OL.nil ?_
        refine EX.seq ?_
        refine CW.ret ?_
        exact EX.fin1 [] rfl rfl rfl ⟨by show Value.bool _ = _; rw [decide_eq_true (by rw [tml_len, hyl2])], rfl⟩
end Go.Proofs.YtmlnnepgigieaaaDoor
