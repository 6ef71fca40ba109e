/- Cuts between operations; tests that are decided; results that lie in a cell; contracts under one chunk. No program here. -/
import Derived.Test.YtmlnnepgigieaaaDoorArr
import Derived.Test.YtmlnnepgigieaaaDoorMm
import Derived.Laws.ResultCell
namespace Go.Sx
section
variable {P : Program} {ops : Array Oper} {Q : Exit → Act → World → Prop} {S : World → Prop} {K : Act → World → Prop} {l2 : List (Bool × Oper)}
theorem wpX_app (hK : ∀ a w, K a w → S w → wpX P ops Q S l2 a w) : ∀ (l1 : List (Bool × Oper)) (a : Act) (w : World), S w → wpX P ops (Exit.then K Q) S l1 a w → wpX P ops Q S (l1 ++ l2) a w
  | [], a, w, hS, h => hK a w h hS
  | (true, o) :: l, a, w, hS, h => by
    obtain ⟨v, hy, hw⟩ := h
    exact ⟨v, hy, wpX_app hK l _ _ hS hw⟩
  | (false, o) :: l, a, w, hS, h => by
    simp only [List.cons_append]
    unfold wpX at h ⊢
    split
    · rename_i hw
      rw [if_pos hw] at h
      exact h.imp (fun h => Oper.wp_mono (fun a w h => ⟨h.1, wpX_app hK l a w h.1 h.2⟩) (Oper.wp_then h)) (fun h => ⟨h.1, LetsOut.then h.2⟩)
    · rename_i hw
      rw [if_neg hw] at h
      exact wpX_app hK l _ _ hS h
end
section
variable {cx : Cx} {rx : Rx} {rest : List (Bool × Oper)} {e : Env} {H : List HP} {Q : Exit → Act → World → Prop}
theorem OL.cutAt {α : Type} (n : Nat) (J : Inv α)
    (h1 : OL cx ⟨rx.ops, Exit.then (J.holds cx) rx.Q, rx.ps, rx.R⟩ (rest.take n) e H) (h2 : ∀ z, J.I z → OL cx rx (rest.drop n) (J.E z) (J.H z)) : OL cx rx rest e H := fun a w hs hR => by
  have := wpX_app (S := fun w => sl (rx.R ++ cx.F) (hp w)) (l2 := rest.drop n) (Q := rx.Q) (K := J.holds cx) (P := cx.P) (ops := rx.ops) (fun a w ⟨z, hz, hs'⟩ hS => h2 z hz a w hs' hS) (rest.take n) a w hR (h1 a w hs hR)
  rwa [List.take_append_drop] at this
theorem OL.peek (h : ∀ p : Env × List HP, p = (e, H) → OL cx rx rest p.1 p.2) : OL cx rx rest e H := h _ rfl
/-- Fewer chunks. -/
theorem CW.drop {c : Code} {H' : List HP} (is : List Nat) (hok : okAt is H.length = true) (hp' : pick is H = H') (h : CW cx c Q e H') : CW cx c Q e H := fun a w hs =>
  h a w (hs.heapMono (hp' ▸ hs.heap.picked hok))
theorem CW.condT {c : Operand} {x y : Code} {b : Bool} (hc : ev e c = some (.bool b)) (hb : b = true) (ht : CW cx x Q e H) : CW cx (.cond c x y) Q e H := CW.cond hc (fun _ => ht) (fun h => by rw [hb] at h; cases h)
theorem CW.condF {c : Operand} {x y : Code} {b : Bool} (hc : ev e c = some (.bool b)) (hb : b = false) (hf : CW cx y Q e H) : CW cx (.cond c x y) Q e H := CW.cond hc (fun h => by rw [hb] at h; cases h) (fun _ => hf)
/-- A nil slice, to be appended to. -/
theorem OL.nilRow (el sz : Nat) (h : OL cx rx rest e (H ++ [row none 0 0 el sz []])) : OL cx rx rest e H := fun a w hs hR => by
  refine h a w (hs.heapMono ?_) hR
  have := sl_row_nil el sz hs.heap
  exact this.perm (by simpa using List.perm_middle.symm)
end
section
variable {cx : Cx} {fn : Func} {post : Value → List HP → Prop} {e : Env} {H : List HP}
/-- What is handed back may lie in a cell. -/
theorem EX.finC {x : Exit} {v : Value} (hx : x = .ret ∨ x = .normal) (is : List Nat) (hr : ∀ a w, EnvOk e a → sl (H ++ cx.F) (hp w) → (results fn a.tmps).run cx.P w = .ok v w) (hok : okAt is H.length = true) (hp' : post v (pick is H)) : EX cx x (bodyPost cx.P fn (Post cx post)) e H := fun a w hs => by
  rcases hx with rfl | rfl <;> exact ⟨hs.defers, v, hr a w hs.env hs.heap, v, _, rfl, hp', hs.st, hs.heap.picked hok⟩
/-- A struct in a cell, and a slot. -/
theorem EX.finCT {x : Exit} {p u ty n b o : Nat} {v' : Value} {vs zs : List Value} (hx : x = .ret ∨ x = .normal) (is : List Nat) (hr : fn.results = #[.cell p ty, .tmp u]) (ht : TyN cx.P ty n zs) (hl : look e p = some (.pointer (some ⟨b, o, none⟩))) (hl' : look e u = some v') (hn : vs.length = n)
    (hc : Ent (H ++ cx.F) (cellsIs b o vs)) (hok : okAt is H.length = true) (hp' : post (.tuple #[.agg vs.toArray, v']) (pick is H)) : EX cx x (bodyPost cx.P fn (Post cx post)) e H :=
  EX.finC hx is (fun a w he hs => by
    have h1 := run_loadCells_is (P := cx.P) (hc _ hs)
    rw [hn] at h1
    simp [results, hr, Array.getD_eq_getD_getElem?, he _ _ hl, he _ _ hl', asAddr, loadVar, ht.agg, ht.size, h1]) hok hp'
end
/-! contracts under one chunk -/
theorem sl.both {A B F : List HP} (h : ∀ k, sl A k → sl B k) {k : PH} (hs : sl (A ++ F) k) : sl (B ++ F) k := by
  obtain ⟨h1, h2, d, e1, e2, s1, s2⟩ := hs.split
  exact sl.join d e1 e2 (h _ s1) s2
theorem sl.both2 {A B F : List HP} {c : Prop} (h : ∀ k, sl A k → c ∧ sl B k) {k : PH} (hs : sl (A ++ F) k) : c ∧ sl (B ++ F) k := by
  obtain ⟨h1, h2, d, e1, e2, s1, s2⟩ := hs.split
  exact ⟨(h _ s1).1, sl.join d e1 e2 (h _ s1).2 s2⟩
/-- What stands opened as one of many lists of chunks. -/
theorem FS.wrap {P : Program} {f : FuncId} {args : List Value} {R : HP} {α : Sort _} {pre : List HP} {post : Value → List HP → Prop} (C : α → Prop) (L : α → List HP) (post' : α → Value → List HP → Prop)
    (ho : ∀ h, sl pre h → ∃ x, C x ∧ sl (L x) h) (h : ∀ x, C x → FS P f args R (L x) (post' x)) (hc : ∀ x, C x → ∀ v H, post' x v H → ∃ H', (∀ k, sl H k → sl H' k) ∧ post v H') : FS P f args R pre post := fun F w hR hs => by
  obtain ⟨h1, h2, d, e1, e2, s1, s2⟩ := hs.split
  obtain ⟨x, hx, hl⟩ := ho _ s1
  refine (h x hx F w hR (sl.join d e1 e2 hl s2)).mono fun en w' ⟨v, H', he, hp', hst, hh⟩ => ?_
  obtain ⟨H2, hm, hp2⟩ := hc x hx v H' hp'
  exact ⟨v, H2, he, hp2, hst, sl.both hm hh⟩
theorem imm_self (h : PH) : sl [imm h] h := ⟨h, fun _ => none, fun _ => .inr rfl, le.refl _, no_le _, le.refl _, trivial⟩
/-- What is only read stands as one of many. -/
theorem FS.opens {P : Program} {f : FuncId} {args : List Value} {R : HP} {α : Sort _} {pre : List HP} {post : Value → List HP → Prop} (C : α → Prop) (RR : α → HP) (hup : ∀ x, Up (RR x)) (ho : ∀ h, R h → ∃ x, C x ∧ RR x h) (h : ∀ x, C x → FS P f args (RR x) pre post) : FS P f args R pre post := fun F w hR hs => by
  obtain ⟨h1, h2, d, e1, e2, s1, s2⟩ := hs.split
  obtain ⟨x, hx, hr⟩ := ho h2 (hR h2 s2)
  refine (h x hx [imm h2] w (fun k hk => ?_) (sl.join d e1 e2 s1 (imm_self h2))).mono fun en w' ⟨v, H', he, hp', hst, hh⟩ => ?_
  · obtain ⟨k1, _, _, f1, _, hi, _⟩ := hk
    exact hup _ _ _ (le.trans hi f1) hr
  · obtain ⟨k1, k2, dd, f1, f2, t1, t2⟩ := hh.split
    obtain ⟨k3, _, _, g1, _, hi, _⟩ := t2
    exact ⟨v, H', he, hp', hst, sl.join dd f1 f2 t1 (s2.mono (le.trans hi g1))⟩
end Go.Sx
