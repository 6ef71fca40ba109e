/- The operations that do something, calls, code, functions. No program here. -/
import Derived.Test.YtmlnnepgigieaaaDoorYields
import Derived.Laws.AppendOwn
import Derived.Laws.AppendOwnNone
import Derived.Laws.MakeOwn
namespace Go.Sx

/-- What comes next, where the chunks that a region leans on are as they were. -/
structure Nx (cx : Cx) (rx : Rx) (rest : List (Bool × Oper)) (e : Env) (H : List HP) : Prop where
  ok : okAt rx.ps H.length = true
  held : pick rx.ps H = rx.R
  go : OL cx rx rest e H

section
variable {cx : Cx} {rx : Rx} {rest : List (Bool × Oper)} {e : Env} {H : List HP} {ty : TypeId} {pos : String} {af : Array Edge}

/-- An operation that yields a value in a world that it changes. -/
theorem OL.does {op : Op} {d : Nat} (K : Value → List HP → Prop) (hd : Nat.blt d cx.N = true)
    (hrun : ∀ a w, EnvOk e a → sl (H ++ cx.F) (hp w) → ∃ v w', (execOp a.eval ⟨some d, op, ty, pos, af, none⟩).run cx.P w = .ok (.value v) w' ∧ St w w' ∧ ∃ H', K v H' ∧ sl (H' ++ cx.F) (hp w'))
    (h : ∀ v H', K v H' → Nx cx rx rest ((d, v) :: e) H') : OL cx rx ((false, ⟨some d, op, ty, pos, af, none⟩) :: rest) e H := by
  refine OL.act (K := fun e' H' => ∃ v, e' = (d, v) :: e ∧ K v H') ?_ ?_
  · intro a w hs Q next hn
    obtain ⟨v, w', hr, hst, H', hK, hh⟩ := hrun a w hs.env hs.heap
    unfold Oper.wp
    rw [hr]
    exact hn _ H' ⟨v, rfl, hK⟩ _ _ ((hs.world hst hh).put hd)
  · rintro e' H' ⟨v, rfl, hK⟩
    have := h v H' hK
    exact ⟨this.ok, this.held, this.go⟩

/-- .. that yields none. -/
theorem OL.skips {op : Op} (K : List HP → Prop)
    (hrun : ∀ a w, EnvOk e a → sl (H ++ cx.F) (hp w) → ∃ w', ((execOp a.eval ⟨none, op, ty, pos, af, none⟩).run cx.P w = .ok .skip w' ∨ ∃ v, (execOp a.eval ⟨none, op, ty, pos, af, none⟩).run cx.P w = .ok (.value v) w') ∧ St w w' ∧ ∃ H', K H' ∧ sl (H' ++ cx.F) (hp w'))
    (h : ∀ H', K H' → Nx cx rx rest e H') : OL cx rx ((false, ⟨none, op, ty, pos, af, none⟩) :: rest) e H := by
  refine OL.act (K := fun e' H' => e' = e ∧ K H') ?_ ?_
  · intro a w hs Q next hn
    obtain ⟨w', hr, hst, H', hK, hh⟩ := hrun a w hs.env hs.heap
    unfold Oper.wp
    rcases hr with hr | ⟨v, hr⟩ <;> rw [hr] <;> exact hn _ H' ⟨rfl, hK⟩ _ _ (hs.world hst hh)
  · rintro e' H' ⟨rfl, hK⟩
    have := h H' hK
    exact ⟨this.ok, this.held, this.go⟩

theorem sl_push {F H : List HP} {b : Nat} {o : Obj} {h : PH} (hb : h b = none) (hs : sl (H ++ F) h) : sl ((H ++ [pts b o]) ++ F) (upd h b o) := by
  have := sl_new (o := o) hb hs
  exact this.perm (by simpa using List.perm_middle.symm)

theorem sl_pushI {F H : List HP} {b : Nat} {o : Obj} {q : HP} {h : PH} (hb : h b = none) (hs : sl (H ++ F) h) (hq : ∀ k, pts b o k → q k) : sl ((H ++ [q]) ++ F) (upd h b o) := by
  have := (sl_new (o := o) hb hs).head_mono hq
  exact this.perm (by simpa using List.perm_middle.symm)

/-- A new variable. -/
theorem OL.alloc {t n d : Nat} {zs : List Value} (ht : TyC cx.P t n zs) (hd : Nat.blt d cx.N = true)
    (h : ∀ b, Nx cx rx rest ((d, .pointer (some ⟨b, 0, none⟩)) :: e) (H ++ [blk b zs t])) : OL cx rx ((false, ⟨some d, .alloc t, ty, pos, af, none⟩) :: rest) e H := by
  refine OL.does (fun v H' => ∃ b, v = .pointer (some ⟨b, 0, none⟩) ∧ H' = H ++ [blk b zs t]) hd ?_ ?_
  · intro a w _ hs
    obtain ⟨z, hz, hzc⟩ := ht.zero
    exact ⟨.pointer (some ⟨w.heap.size, 0, none⟩), { w with heap := w.heap.push (.cells zs.toArray t (0, 0)) }, by simp [execOp, Instr.alloc, hz, newVar, newRow, hzc], St.alloc w _, _, ⟨w.heap.size, rfl, rfl⟩, by rw [hp_alloc]; exact sl_push (hp_top w) hs⟩
  · rintro v H' ⟨b, rfl, rfl⟩; exact h b

/-- A value in a new variable. -/
theorem OL.box {t d : Nat} {x : Operand} {v : Value} {cs : List Value} (hx : ev e x = some v) (hc : v.cells = cs.toArray) (hd : Nat.blt d cx.N = true)
    (h : ∀ b, Nx cx rx rest ((d, .pointer (some ⟨b, 0, none⟩)) :: e) (H ++ [blk b cs t])) : OL cx rx ((false, ⟨some d, .box t x, ty, pos, af, none⟩) :: rest) e H := by
  refine OL.does (fun v H' => ∃ b, v = .pointer (some ⟨b, 0, none⟩) ∧ H' = H ++ [blk b cs t]) hd ?_ ?_
  · intro a w he hs
    exact ⟨.pointer (some ⟨w.heap.size, 0, none⟩), { w with heap := w.heap.push (.cells cs.toArray t (0, 0)) }, by simp [execOp, Instr.box, ev_eval he hx, newVar, newRow, hc], St.alloc w _, _, ⟨w.heap.size, rfl, rfl⟩, by rw [hp_alloc]; exact sl_push (hp_top w) hs⟩
  · rintro v H' ⟨b, rfl, rfl⟩; exact h b

/-- Values of one cell each. -/
def oneAll : List Value → Bool
  | [] => true
  | v :: l => v.oneCell' && oneAll l
def oneRows : List (List Value) → Bool
  | [] => true
  | r :: l => oneAll r && oneRows l
theorem oneAll_mem : ∀ {vs : List Value}, oneAll vs = true → ∀ u ∈ vs, u.oneCell' = true
  | [], _, _, h => nomatch h
  | v :: l, h, u, hu => by
    simp only [oneAll, Bool.and_eq_true] at h
    rcases List.mem_cons.1 hu with rfl | hu
    · exact h.1
    · exact oneAll_mem h.2 u hu
theorem oneRows_mem : ∀ {vs : List (List Value)}, oneRows vs = true → ∀ r ∈ vs, ∀ v ∈ r, v.oneCell' = true
  | [], _, _, h => nomatch h
  | v :: l, h, u, hu => by
    simp only [oneRows, Bool.and_eq_true] at h
    rcases List.mem_cons.1 hu with rfl | hu
    · exact oneAll_mem h.1
    · exact oneRows_mem h.2 u hu
theorem oneRows_map {α : Type _} (f : α → List Value) (h : ∀ x, oneAll (f x) = true) : ∀ l : List α, oneRows (l.map f) = true
  | [] => rfl
  | x :: l => by simp [oneRows, h, oneRows_map f h l]
theorem oneRows_app {x y : List (List Value)} (hx : oneRows x = true) (hy : oneRows y = true) : oneRows (x ++ y) = true := by
  induction x with
  | nil => exact hy
  | cons a l ih => simp only [oneRows, Bool.and_eq_true, List.cons_append] at hx ⊢; exact ⟨hx.1, ih hx.2⟩

/-- A store of one cell. -/
theorem OL.store {t b o : Nat} {x y : Operand} {v : Value} {cs : List Value} {bt : TypeId} {zs : List Value} (i : Nat) (hi : nth H i = some (blk b cs bt)) (ht : TyC cx.P t 1 zs) (hx : ev e x = some (.pointer (some ⟨b, o, none⟩))) (hy : ev e y = some v)
    (hv : v.cells = #[v]) (hv1 : v.oneCell' = true) (ho : Nat.blt o cs.length = true) (h : Nx cx rx rest e (H.set i (blk b (cs.set o v) bt))) : OL cx rx ((false, ⟨none, .store t x y, ty, pos, af, none⟩) :: rest) e H := by
  replace ho : o < cs.length := Nat.le_of_ble_eq_true ho
  refine OL.skips (fun H' => H' = H.set i (blk b (cs.set o v) bt)) ?_ (by rintro H' rfl; exact h)
  intro a w he hs
  have h1 := hs.take (nth_append hi cx.F)
  have h1' := h1
  obtain ⟨k1, _, _, e1, _, kb, _⟩ := h1'
  have hb : hp w b = some (.cells cs.toArray bt (0, 0)) := e1 _ _ kb
  have hcell : w.cell? ⟨b, o, none⟩ = some cs[o] := (blk_cell (t := bt) (by rw [nth_eq]; exact List.getElem?_eq_getElem ho) _ hb).cell
  have hfr : w.frozen? ⟨b, o, none⟩ = false := by
    have : w.heap[b]? = some (.cells cs.toArray bt (0, 0)) := hb
    simp [World.frozen?, this]
  refine ⟨w.setCell ⟨b, o, none⟩ v, .inl ?_, St.setCell _ _ _, _, rfl, ?_⟩
  · simp [execOp, ev_eval he hx, ev_eval he hy, Instr.storeAt, Instr.sureAddr, storeVar, hv, ht.size, storeCells, Addr.add_lit, run_store _ _ _ _ _ hv1, hcell, hfr]
  · rw [hp_setCell hb]
    have h2 := sl_upd (o' := .cells (cs.set o v).toArray bt (0, 0)) h1
    have e3 : (H ++ cx.F).set i (blk b (cs.set o v) bt) = H.set i (blk b (cs.set o v) bt) ++ cx.F := List.set_append_left _ _ (nth_lt hi)
    rw [← e3]
    have e4 : (cs.toArray.setIfInBounds o v) = (cs.set o v).toArray := by simp
    rw [e4]
    exact sl.lay (by have := nth_lt hi; simp; omega) h2

theorem setR_take : ∀ (cs zs : List Value) (o : Nat), o + cs.length ≤ zs.length → setR zs o cs = zs.take o ++ cs ++ zs.drop (o + cs.length)
  | [], zs, o, _ => by simp [setR]
  | c :: cs, zs, o, h => by
    simp only [List.length_cons] at h
    simp only [setR]
    rw [setR_take cs (zs.set o c) (o + 1) (by simp; omega)]
    have := list_seg_step zs o c cs (by omega)
    simpa [Nat.add_assoc, Nat.add_comm, Nat.add_left_comm] using this

/-- A store of a whole struct. -/
theorem OL.storeAll {t b o n : Nat} {x y : Operand} {v : Value} {vs cs zs : List Value} {bt : TypeId} (i : Nat) (hi : nth H i = some (blk b cs bt)) (ht : TyC cx.P t n zs) (hx : ev e x = some (.pointer (some ⟨b, o, none⟩))) (hy : ev e y = some v)
    (hv : v.cells = vs.toArray) (hv1 : oneAll vs = true) (hn : vs.length = n) (ho : Nat.ble (o + vs.length) cs.length = true) (h : Nx cx rx rest e (H.set i (blk b (setR cs o vs) bt))) : OL cx rx ((false, ⟨none, .store t x y, ty, pos, af, none⟩) :: rest) e H := by
  replace ho : o + vs.length ≤ cs.length := Nat.le_of_ble_eq_true ho
  replace hv1 := oneAll_mem hv1
  refine OL.skips (fun H' => H' = H.set i (blk b (setR cs o vs) bt)) ?_ (by rintro H' rfl; exact h)
  intro a w he hs
  have h1 := hs.take (nth_append hi cx.F)
  obtain ⟨k1, k2, dd, e1, e2, kb, hk2⟩ := h1
  have hb : w.heap[b]? = some (.cells cs.toArray bt (0, 0)) := e1 _ _ kb
  have hrun := run_storeCells_at cx.P b o bt vs 0 cs.toArray w hb (by simpa using ho) hv1
  have hst : (storeVar t ⟨b, o, none⟩ v).run cx.P w = .ok () (w.setRow b (setR cs o vs).toArray) := by
    have h0 : ¬ v.cells.size ≠ n := by simp [hv, hn]
    unfold storeVar
    rw [Sem.run_bind, ht.size]
    simp only [Result.andThen_ok]
    rw [if_neg h0, hv, List.toList_toArray, hrun, setR_take vs cs o ho]
    simp
  refine ⟨w.setRow b (setR cs o vs).toArray, .inl ?_, ⟨rfl, rfl, rfl, by simp [World.setRow]⟩, _, rfl, ?_⟩
  · simp [execOp, ev_eval he hx, ev_eval he hy, Instr.storeAt, Instr.sureAddr, hst]
  · have hh : hp (w.setRow b (setR cs o vs).toArray) = upd (hp w) b (.cells (setR cs o vs).toArray bt (0, 0)) := by
      funext q
      by_cases hq : q = b
      · subst hq; simp [hp, upd, setRow_heap w q _ _ bt _ hb]
      · simp [hp, upd, hq, setRow_other w b q _ hq]
    rw [hh]
    have h2 := sl_upd (o' := .cells (setR cs o vs).toArray bt (0, 0)) (show sl (pts b (.cells cs.toArray bt (0, 0)) :: (H ++ cx.F).eraseIdx i) (hp w) from ⟨k1, k2, dd, e1, e2, kb, hk2⟩)
    have e3 : (H ++ cx.F).set i (blk b (setR cs o vs) bt) = H.set i (blk b (setR cs o vs) bt) ++ cx.F := List.set_append_left _ _ (nth_lt hi)
    rw [← e3]
    exact sl.lay (by have := nth_lt hi; simp; omega) h2

/-- A call of a function that is known. -/
def FS (P : Program) (f : FuncId) (args : List Value) (R : HP) (pre : List HP) (post : Value → List HP → Prop) : Prop :=
  ∀ (F : List HP) (w : World), Ent F R → sl (pre ++ F) (hp w) → Calls P f args.toArray w fun en w' => ∃ v H', en = .returned v ∧ post v H' ∧ St w w' ∧ sl (H' ++ F) (hp w')

def nothing : HP := fun _ => True
theorem Ent.nothing (l : List HP) : Ent l nothing := fun _ _ => trivial

theorem callsOper {P : Program} {f : FuncId} {vs : List Value} {a : Act} {w : World} {e : Env} {fop : Operand} {args : List Operand} {ats : Array TypeId} {d : Option Nat} {g : Option (Nat × Bool)} (hc : ∀ as w, (callFunc f as).run P w = .ok (.enter f as) w) (he : EnvOk e a)
    (hf : ev e fop = some (.func (.func f) #[] #[])) (ha : evs e args = some vs) : (execOp a.eval ⟨d, .call ⟨.value fop, args.toArray, ats⟩, ty, pos, af, g⟩).run P w = .ok (.enter f vs.toArray) w := by
  have h1 := evs_eval he ha
  simp [execOp, resolve, ev_eval he hf, Deferred.ofValue, invoke, h1, hc]

theorem OL.call {f d : Nat} {vs : List Value} {R : HP} {pre : List HP} {post : Value → List HP → Prop} {fop : Operand} {args : List Operand} {ats : Array TypeId} (is : List Nat) (spec : FS cx.P f vs R pre post)
    (hc : ∀ as w, (callFunc f as).run cx.P w = .ok (.enter f as) w) (hf : ev e fop = some (.func (.func f) #[] #[])) (ha : evs e args = some vs) (hok : okAt is H.length = true) (hp' : pick is H = pre) (hR : Ent (wipe is H ++ cx.F) R) (hd : Nat.blt d cx.N = true)
    (h : ∀ v H', post v H' → Nx cx rx rest ((d, v) :: e) (place is H' H)) : OL cx rx ((false, ⟨some d, .call ⟨.value fop, args.toArray, ats⟩, ty, pos, af, none⟩) :: rest) e H := by
  refine OL.act (K := fun e' H' => ∃ v N, post v N ∧ e' = (d, v) :: e ∧ H' = place is N H) ?_ ?_
  · intro a w hs Q next hn
    have h1 := hs.heap.parts cx.F hok
    rw [hp'] at h1
    unfold Oper.wp
    rw [callsOper hc hs.env hf ha]
    refine (spec (wipe is H ++ cx.F) w hR h1).mono fun en w' ⟨v, N, hen, hpost, hst, hh⟩ => ?_
    subst hen
    exact hn _ _ ⟨v, N, hpost, rfl, rfl⟩ _ _ ((hs.world hst (sl.placed hok hh)).put hd)
  · rintro e' H' ⟨v, N, hpost, rfl, rfl⟩
    have := h v N hpost
    exact ⟨this.ok, this.held, this.go⟩

theorem OL.callU {f : Nat} {vs : List Value} {R : HP} {pre : List HP} {post : Value → List HP → Prop} {fop : Operand} {args : List Operand} {ats : Array TypeId} (is : List Nat) (spec : FS cx.P f vs R pre post)
    (hc : ∀ as w, (callFunc f as).run cx.P w = .ok (.enter f as) w) (hf : ev e fop = some (.func (.func f) #[] #[])) (ha : evs e args = some vs) (hok : okAt is H.length = true) (hp' : pick is H = pre) (hR : Ent (wipe is H ++ cx.F) R)
    (h : ∀ v H', post v H' → Nx cx rx rest e (place is H' H)) : OL cx rx ((false, ⟨none, .call ⟨.value fop, args.toArray, ats⟩, ty, pos, af, none⟩) :: rest) e H := by
  refine OL.act (K := fun e' H' => ∃ v N, post v N ∧ e' = e ∧ H' = place is N H) ?_ ?_
  · intro a w hs Q next hn
    have h1 := hs.heap.parts cx.F hok
    rw [hp'] at h1
    unfold Oper.wp
    rw [callsOper hc hs.env hf ha]
    refine (spec (wipe is H ++ cx.F) w hR h1).mono fun en w' ⟨v, N, hen, hpost, hst, hh⟩ => ?_
    subst hen
    exact hn _ _ ⟨v, N, hpost, rfl, rfl⟩ _ _ (hs.world hst (sl.placed hok hh))
  · rintro e' H' ⟨v, N, hpost, rfl, rfl⟩
    have := h v N hpost
    exact ⟨this.ok, this.held, this.go⟩
end

/-! ### slices of the call's own -/
section
variable {cx : Cx} {rx : Rx} {rest : List (Bool × Oper)} {e : Env} {H : List HP} {ty : TypeId} {pos : String} {af : Array Edge}

/-- Rows with some of them told. -/
def rowsOf (xss : List (List Value)) : List (Nat × Value) → List (List Value)
  | [] => xss
  | (i, v) :: r => rowsOf (xss.set i (cl v)) r
def partsOk (n sz : Nat) : List (Nat × Value) → Bool
  | [] => true
  | (i, v) :: r => Nat.blt i n && Nat.beq (cl v).length sz && partsOk n sz r

theorem rowsOf_len : ∀ (parts : List (Nat × Value)) (xss : List (List Value)), (rowsOf xss parts).length = xss.length
  | [], _ => rfl
  | (i, v) :: r, xss => by simp [rowsOf, rowsOf_len r]
theorem rowsOf_sz {n sz : Nat} : ∀ (parts : List (Nat × Value)) (xss : List (List Value)), partsOk n sz parts = true → (∀ x ∈ xss, x.length = sz) → ∀ x ∈ rowsOf xss parts, x.length = sz
  | [], _, _, h => h
  | (i, v) :: r, xss, hp, h => by
    simp only [partsOk, Bool.and_eq_true] at hp
    refine rowsOf_sz r _ hp.2 ?_
    intro x hx
    rcases List.mem_or_eq_of_mem_set hx with hx | rfl
    · exact h x hx
    · exact Nat.eq_of_beq_eq_true hp.1.2

theorem setR_app : ∀ (cs a b c : List Value), cs.length = b.length → setR (a ++ b ++ c) a.length cs = a ++ cs ++ c
  | [], a, b, c, h => by
    have : b = [] := List.eq_nil_of_length_eq_zero h.symm
    subst this; rfl
  | x :: cs, a, [], c, h => by simp at h
  | x :: cs, a, y :: b, c, h => by
    simp only [setR]
    have e1 : (a ++ y :: b ++ c).set a.length x = (a ++ [x]) ++ b ++ c := by
      rw [List.append_assoc, List.set_append_right _ _ (Nat.le_refl _)]
      simp
    rw [e1]
    have e2 : a.length + 1 = (a ++ [x]).length := by simp
    rw [e2, setR_app cs (a ++ [x]) b c (by simpa using h)]
    simp

theorem flatten_set : ∀ (xss : List (List Value)) (sz i : Nat) (cs : List Value), (∀ x ∈ xss, x.length = sz) → i < xss.length → cs.length = sz → (xss.set i cs).flatten = setR xss.flatten (i * sz) cs
  | [], _, _, _, _, hi, _ => by simp at hi
  | x :: l, sz, 0, cs, hs, _, hc => by
    have := setR_app cs [] x l.flatten (by rw [hc, hs x (by simp)])
    simp only [List.nil_append, List.length_nil] at this
    simp [this]
  | x :: l, sz, i + 1, cs, hs, hi, hc => by
    have hx : x.length = sz := hs x (by simp)
    have hin : i < l.length := by simpa using hi
    have ih := flatten_set l sz i cs (fun y hy => hs y (by simp [hy])) hin hc
    simp only [List.set_cons_succ, List.flatten_cons, ih]
    have hfl := flatten_length l sz (fun y hy => hs y (by simp [hy]))
    have hle : i * sz + sz ≤ l.flatten.length := by
      rw [hfl, ← Nat.succ_mul]; exact Nat.mul_le_mul_right _ hin
    have e1 : l.flatten = l.flatten.take (i * sz) ++ (l.flatten.drop (i * sz)).take sz ++ (l.flatten.drop (i * sz)).drop sz := by
      rw [List.append_assoc, List.take_append_drop, List.take_append_drop]
    generalize hA : l.flatten.take (i * sz) = A at *
    generalize hB : (l.flatten.drop (i * sz)).take sz = B at *
    generalize hC : (l.flatten.drop (i * sz)).drop sz = C at *
    have lA : A.length = i * sz := by rw [← hA, List.length_take]; omega
    have lB : B.length = sz := by rw [← hB, List.length_take, List.length_drop]; omega
    rw [e1]
    have e2 := setR_app cs A B C (by omega)
    rw [lA] at e2
    rw [e2]
    have e3 := setR_app cs (x ++ A) B C (by omega)
    have e4 : (x ++ A).length = (i + 1) * sz := by rw [List.length_append, hx, lA, Nat.add_mul, Nat.one_mul, Nat.add_comm]
    rw [e4] at e3
    simp only [List.append_assoc] at e3 ⊢
    exact e3.symm

theorem fill_rows {n sz : Nat} : ∀ (parts : List (Nat × Value)) (xss : List (List Value)), xss.length = n → (∀ x ∈ xss, x.length = sz) → partsOk n sz parts = true →
    Instr.fill (fun i => some (i * sz, sz)) xss.flatten.toArray parts = some (rowsOf xss parts).flatten.toArray
  | [], xss, _, _, _ => by simp [Instr.fill, rowsOf]
  | (i, v) :: r, xss, hn, hs, hp => by
    simp only [partsOk, Bool.and_eq_true] at hp
    have hi : i < n := Nat.le_of_ble_eq_true hp.1.1
    have hv : (cl v).length = sz := Nat.eq_of_beq_eq_true hp.1.2
    have h3 : v.cells.size = sz := by rw [← hv]; simp [cl]
    have hfl := flatten_length xss sz hs
    have hle : i * sz + sz ≤ xss.flatten.length := by
      rw [hfl, ← Nat.succ_mul, hn]; exact Nat.mul_le_mul_right _ hi
    simp only [Instr.fill]
    rw [if_neg (by simp [h3]; rw [List.length_flatten] at hle; omega)]
    have h4 : v.cells.zipIdx.foldl (fun (cs : Array Value) (p : Value × Nat) => cs.setIfInBounds (i * sz + p.2) p.1) xss.flatten.toArray = (xss.set i (cl v)).flatten.toArray := by
      rw [← Array.foldl_toList, Array.toList_zipIdx, flatten_set xss sz i (cl v) hs (by omega) hv]
      exact setR_fold _ _ _ _
    have := fill_rows r (xss.set i (cl v)) (by simpa using hn) (fun x hx => by
      rcases List.mem_or_eq_of_mem_set hx with hx | rfl
      · exact hs x hx
      · exact hv) hp.2
    rw [show rowsOf xss ((i, v) :: r) = rowsOf (xss.set i (cl v)) r from rfl, ← this]
    exact congrArg (fun z => Instr.fill _ z r) h4

theorem range_rows (zs : List Value) : ∀ n, ((Array.range (n * zs.length)).map (zs.toArray[· % zs.length]!)) = (List.replicate n zs).flatten.toArray := by
  intro n
  apply Array.ext'
  simp only [Array.toList_map, Array.toList_range]
  induction n with
  | zero => simp
  | succ n ih =>
    rw [List.replicate_succ', List.flatten_append, ← ih, Nat.succ_mul, List.range_add, List.map_append]
    congr 1
    simp only [List.map_map, List.flatten_cons, List.flatten_nil, List.append_nil]
    apply List.ext_getElem
    · simp
    · intro j h1 h2
      simp only [List.length_map, List.length_range] at h1
      have e1 : (n * zs.length + j) % zs.length = j := by rw [Nat.mul_comm, Nat.mul_add_mod, Nat.mod_eq_of_lt h1]
      simp [e1, h1]


theorem parts_run {a : Act} (he : EnvOk e a) {parts : List (Nat × Operand)} {vs : List (Nat × Value)} (hp : evParts e parts = some vs) : (parts.toArray.map fun (p : Nat × Operand) => (p.1, a.eval p.2)).toList = vs := by
  simpa using evParts_eval he hp

/-- []T{..} -/
theorem OL.buildSlice {t el n sz d : Nat} {parts : List (Nat × Operand)} {vs : List (Nat × Value)} {zs : List Value} (xss : List (List Value)) (ht : cx.P.underlying t = some (.slice el)) (hz : TyC cx.P el sz zs) (hsz : 0 < sz) (hp : evParts e parts = some vs)
    (hn : n * sz ≤ 16777216) (hok : partsOk n sz vs = true) (hx : rowsOf (List.replicate n zs) vs = xss) (hd : Nat.blt d cx.N = true)
    (h : ∀ g, Nx cx rx rest ((d, .slice (some ⟨g, 0, none⟩) n n) :: e) (H ++ [row (some ⟨g, 0, none⟩) n n el sz xss])) :
    OL cx rx ((false, ⟨some d, .buildSlice t n parts.toArray, ty, pos, af, none⟩) :: rest) e H := by
  refine OL.does (fun v H' => ∃ g, v = .slice (some ⟨g, 0, none⟩) n n ∧ H' = H ++ [row (some ⟨g, 0, none⟩) n n el sz xss]) hd ?_ ?_
  · intro a w he hs
    obtain ⟨z, hz1, hz2⟩ := hz.zero
    have h3 := parts_run he hp
    have hrl : (List.replicate n zs).length = n := List.length_replicate
    have hrs : ∀ x ∈ List.replicate n zs, x.length = sz := fun x hx => by rw [List.eq_of_mem_replicate hx]; exact hz.len
    have hf := fill_rows vs (List.replicate n zs) hrl hrs hok
    rw [hx] at hf
    refine ⟨.slice (some ⟨w.heap.size, 0, none⟩) n n, { w with heap := w.heap.push (.cells xss.flatten.toArray el (0, 0)) }, ?_, St.alloc w _, _, ⟨w.heap.size, rfl, rfl⟩, ?_⟩
    · have h6 : ¬ 2 ^ 24 < n * sz := by omega
      have h9 : (Instr.buildSlice t n (parts.toArray.map fun (p : Nat × Operand) => (p.1, a.eval p.2))).run cx.P w = .ok (.slice (some ⟨w.heap.size, 0, none⟩) n n) { w with heap := w.heap.push (.cells xss.flatten.toArray el (0, 0)) } := by
        unfold Instr.buildSlice
        by_cases h0 : n * sz = 0
        · have hn0 : n = 0 := by
            rcases Nat.mul_eq_zero.1 h0 with h | h
            · exact h
            · omega
          subst hn0
          have hf' : Instr.fill (fun i => some (i * sz, sz)) #[] vs = some xss.flatten.toArray := by simpa using hf
          have h3' := evParts_eval he hp
          have hr0 : Array.range 0 = #[] := rfl
          simp [run_underlying ht, hz.size, h3', hr0, hf', newRow]
        · have h8 := range_rows zs n
          rw [hz.len] at h8
          have h8' : (Array.range (n * sz)).map (fun x => zs.toArray[x % zs.toArray.size]!) = (List.replicate n zs).flatten.toArray := by
            rw [← h8]; simp [hz.len]
          simp only [Sem.run_bind, run_underlying ht, Result.andThen_ok, hz.size, Sem.run_ite, if_neg h6, if_neg h0, hz1, hz2, Sem.run_pure, h8', h3, hf, newRow, run_newObj]
      simp only [execOp, Sem.run_bind]
      rw [h9]
      rfl
    · rw [hp_alloc]
      refine sl_pushI (hp_top w) hs fun k hk => ⟨?_, rowsOf_sz vs _ hok hrs |> fun q => hx ▸ q, .inr ⟨w.heap.size, _, rfl, hk, Nat.le_refl _, ?_, ?_, ?_⟩⟩
      · rw [← hx, rowsOf_len, hrl]
      · simp only [maxLen]
        have : n ≤ n * sz := Nat.le_mul_of_pos_right n hsz
        omega
      · have := flatten_length xss sz (hx ▸ rowsOf_sz vs _ hok hrs)
        rw [List.size_toArray, this, ← hx, rowsOf_len, hrl]
      · have := flatten_length xss sz (hx ▸ rowsOf_sz vs _ hok hrs)
        rw [← hx, rowsOf_len, hrl, hx] at this
        rw [← this, List.take_length]
  · rintro v H' ⟨g, rfl, rfl⟩; exact h g
end
end Go.Sx
