/- The judgements: what a state is known to hold (slots, chunks), and a list of operations, a piece of code, a call that is right from there on. No program here. -/
import Derived.Test.YtmlnnepgigieaaaDoorSl
namespace Go.Sx

/-- What is known of the slots: the first row that names one. -/
abbrev Env := List (Nat × Value)
def look : Env → Nat → Option Value
  | [], _ => none
  | (s, v) :: e, n => bif Nat.beq s n then some v else look e n
def EnvOk (e : Env) (a : Act) : Prop := ∀ s v, look e s = some v → a.tmps[s]? = some v
def ev (e : Env) : Operand → Option Value
  | .tmp t => look e t
  | .const v => some v
  | .global g => some (.pointer (some ⟨g, 0, none⟩))
  | .func f => some (.func (.func f) #[] #[])
def evs (e : Env) : List Operand → Option (List Value)
  | [] => some []
  | x :: l => match ev e x, evs e l with | some v, some vs => some (v :: vs) | _, _ => none

theorem ev_eval {e : Env} {a : Act} {x : Operand} {v : Value} (h : EnvOk e a) (hx : ev e x = some v) : a.eval x = v := by
  cases x with
  | tmp t => have := h t v hx; simp [Act.eval, Array.getD_eq_getD_getElem?, this]
  | const u => simpa [ev, Act.eval] using hx
  | global g => simpa [ev, Act.eval] using hx
  | func f => simpa [ev, Act.eval] using hx

theorem evs_eval {e : Env} {a : Act} (h : EnvOk e a) : ∀ {l : List Operand} {vs : List Value}, evs e l = some vs → l.map a.eval = vs
  | [], vs, hx => by simp [evs] at hx; simp [hx]
  | x :: l, vs, hx => by
    simp only [evs] at hx
    split at hx
    · rename_i v us h1 h2
      cases hx
      simp [ev_eval h h1, evs_eval h h2]
    · cases hx

theorem EnvOk.nil (a : Act) : EnvOk [] a := fun _ _ h => nomatch h

theorem EnvOk.put {e : Env} {a : Act} {d : Nat} {v : Value} (h : EnvOk e a) (hd : d < a.tmps.size) : EnvOk ((d, v) :: e) (a.put (some d) v) := by
  intro s u hs
  simp only [look] at hs
  by_cases hds : d = s
  · subst hds
    simp at hs
    subst hs
    simp [Act.put, hd]
  · have : Nat.beq d s = false := by
      cases hb : Nat.beq d s with
      | false => rfl
      | true => exact absurd (Nat.eq_of_beq_eq_true hb) hds
    rw [this] at hs
    simp only [cond_false] at hs
    simp only [Act.put]
    rw [Array.getElem?_setIfInBounds_ne hds]
    exact h s u hs

/-- All that a walk through one function keeps: the program, the world in which it began, how many slots it has, what others hold. -/
structure Cx where
  P : Program
  w0 : World
  N : Nat
  F : List HP

structure Sat (cx : Cx) (e : Env) (H : List HP) (a : Act) (w : World) : Prop where
  defers : a.defers = []
  size : a.tmps.size = cx.N
  env : EnvOk e a
  st : St cx.w0 w
  heap : sl (H ++ cx.F) (hp w)

theorem Sat.put {cx : Cx} {e : Env} {H : List HP} {a : Act} {w : World} {d : Nat} {v : Value} (h : Sat cx e H a w) (hd : Nat.blt d cx.N = true) : Sat cx ((d, v) :: e) H (a.put (some d) v) w :=
  ⟨h.defers, by simp [Act.put, h.size], h.env.put (by rw [h.size]; exact Nat.le_of_ble_eq_true hd), h.st, h.heap⟩
theorem Sat.put' {cx : Cx} {e : Env} {H : List HP} {a : Act} {w : World} {v : Value} (h : Sat cx e H a w) : Sat cx e H (a.put none v) w := h
theorem Sat.world {cx : Cx} {e : Env} {H H' : List HP} {a : Act} {w w' : World} (h : Sat cx e H a w) (hs : St w w') (hh : sl (H' ++ cx.F) (hp w')) : Sat cx e H' a w' :=
  ⟨h.defers, h.size, h.env, h.st.trans hs, hh⟩
theorem Sat.heapMono {cx : Cx} {e : Env} {H H' : List HP} {a : Act} {w : World} (h : Sat cx e H a w) (hh : sl (H' ++ cx.F) (hp w)) : Sat cx e H' a w :=
  ⟨h.defers, h.size, h.env, h.st, hh⟩

/-- What a region keeps: its operations, where it leads, the places of chunks that its loads lean on (in a region that draws its order), and these. -/
structure Rx where
  ops : Array Oper
  Q : Exit → Act → World → Prop
  ps : List Nat
  R : List HP

/-- The operations in one order; 'true': it yields the same whenever it comes up. -/
def wpX (P : Program) (ops : Array Oper) (Q : Exit → Act → World → Prop) (S : World → Prop) : List (Bool × Oper) → Act → World → Prop
  | [], a, w => Q .normal a w
  | (true, o) :: rest, a, w => ∃ v, YieldsIf P ops S o v a ∧ wpX P ops Q S rest (a.put o.dst v) w
  | (false, o) :: rest, a, w =>
    if Region.wanted o (yielded ops a.tmps) = true then o.wp P a w (fun a' w' => S w' ∧ wpX P ops Q S rest a' w') Q ∨ (o.asks P a w ∧ LetsOut Q)
    else wpX P ops Q S rest (a.put o.dst undef) w

def OL (cx : Cx) (rx : Rx) (rest : List (Bool × Oper)) (e : Env) (H : List HP) : Prop :=
  ∀ a w, Sat cx e H a w → sl (rx.R ++ cx.F) (hp w) → wpX cx.P rx.ops rx.Q (fun w => sl (rx.R ++ cx.F) (hp w)) rest a w

/-- Code that is right from a state on. -/
def CW (cx : Cx) (c : Code) (Q : Exit → Act → World → Prop) (e : Env) (H : List HP) : Prop :=
  ∀ a w, Sat cx e H a w → c.wp cx.P Q a w

/-- A way out that is right from a state on. -/
def EX (cx : Cx) (x : Exit) (Q : Exit → Act → World → Prop) (e : Env) (H : List HP) : Prop :=
  ∀ a w, Sat cx e H a w → Q x a w

/-- 'v' is what the operation yields, in every world that holds HH. -/
def Yv (P : Program) (HH : List HP) (e : Env) (o : Oper) (v : Value) : Prop :=
  ∀ a w, EnvOk e a → sl HH (hp w) → (execOp a.eval o).run P w = .ok (.value v) w

section
variable {cx : Cx} {rx : Rx} {rest : List (Bool × Oper)} {e : Env} {H : List HP}

theorem OL.nil (h : EX cx .normal rx.Q e H) : OL cx rx [] e H := fun a w hs _ => h a w hs

theorem OL.q {d : Nat} {op : Op} {ty : TypeId} {pos : String} {af : Array Edge} {v : Value} (hy : Yv cx.P (H ++ cx.F) e ⟨some d, op, ty, pos, af, none⟩ v) (hd : Nat.blt d cx.N = true)
    (h : OL cx rx rest ((d, v) :: e) H) : OL cx rx ((false, ⟨some d, op, ty, pos, af, none⟩) :: rest) e H := fun a w hs hR => by
  unfold wpX
  rw [if_pos (show Region.wanted _ _ = true from rfl)]
  refine .inl ?_
  unfold Oper.wp
  rw [hy a w hs.env hs.heap]
  exact ⟨hR, h _ _ (hs.put hd) hR⟩

theorem OL.qt {d : Nat} {op : Op} {ty : TypeId} {pos : String} {af : Array Edge} {v : Value} (hy : Yv cx.P (rx.R ++ cx.F) e ⟨some d, op, ty, pos, af, none⟩ v) (hd : Nat.blt d cx.N = true)
    (h : OL cx rx rest ((d, v) :: e) H) : OL cx rx ((true, ⟨some d, op, ty, pos, af, none⟩) :: rest) e H := fun a _ hs hR =>
  ⟨v, .inl ⟨rfl, fun w' hw' => hy a w' hs.env hw'⟩, h _ _ (hs.put hd) hR⟩

/-- An operation with a guard that says yes, or no. -/
theorem wanted_of {a : Act} {ops : Array Oper} {j s : Nat} {b c : Bool} {d : Option Nat} {op : Op} {ty : TypeId} {pos : String} {af : Array Edge} (he : EnvOk e a)
    (hj : (ops[j]?).bind (·.dst) = some s) (hl : look e s = some (.bool c)) : Region.wanted ⟨d, op, ty, pos, af, some (j, b)⟩ (yielded ops a.tmps) = (c == b) := by
  have h1 := he s _ hl
  simp [Region.wanted, yielded, hj, h1]

theorem OL.qg {d : Nat} {op : Op} {ty : TypeId} {pos : String} {af : Array Edge} {v : Value} {j s : Nat} {b c : Bool}
    (hj : (rx.ops[j]?).bind (·.dst) = some s) (hl : look e s = some (.bool c)) (hc : c = b)
    (hy : Yv cx.P (H ++ cx.F) e ⟨some d, op, ty, pos, af, some (j, b)⟩ v) (hd : Nat.blt d cx.N = true)
    (h : OL cx rx rest ((d, v) :: e) H) : OL cx rx ((false, ⟨some d, op, ty, pos, af, some (j, b)⟩) :: rest) e H := fun a w hs hR => by
  unfold wpX
  rw [wanted_of hs.env hj hl, hc, if_pos (by simp)]
  refine .inl ?_
  unfold Oper.wp
  rw [hy a w hs.env hs.heap]
  exact ⟨hR, h _ _ (hs.put hd) hR⟩

theorem OL.no {d : Nat} {op : Op} {ty : TypeId} {pos : String} {af : Array Edge} {j s : Nat} {b c : Bool}
    (hc : c = !b) (hj : (rx.ops[j]?).bind (·.dst) = some s) (hl : look e s = some (.bool c)) (hd : Nat.blt d cx.N = true)
    (h : OL cx rx rest ((d, undef) :: e) H) : OL cx rx ((false, ⟨some d, op, ty, pos, af, some (j, b)⟩) :: rest) e H := fun a w hs hR => by
  unfold wpX
  rw [wanted_of hs.env hj hl, hc, if_neg (by cases b <;> simp)]
  exact h _ _ (hs.put hd) hR

theorem OL.qtg {d : Nat} {op : Op} {ty : TypeId} {pos : String} {af : Array Edge} {v : Value} {j s : Nat} {b c : Bool}
    (hj : (rx.ops[j]?).bind (·.dst) = some s) (hl : look e s = some (.bool c)) (hc : c = b)
    (hy : Yv cx.P (rx.R ++ cx.F) e ⟨some d, op, ty, pos, af, some (j, b)⟩ v) (hd : Nat.blt d cx.N = true)
    (h : OL cx rx rest ((d, v) :: e) H) : OL cx rx ((true, ⟨some d, op, ty, pos, af, some (j, b)⟩) :: rest) e H := fun a _ hs hR =>
  ⟨v, .inl ⟨by rw [wanted_of hs.env hj hl, hc]; simp, fun w' hw' => hy a w' hs.env hw'⟩, h _ _ (hs.put hd) hR⟩

theorem OL.tno {d : Nat} {op : Op} {ty : TypeId} {pos : String} {af : Array Edge} {j s : Nat} {b c : Bool}
    (hc : c = !b) (hj : (rx.ops[j]?).bind (·.dst) = some s) (hl : look e s = some (.bool c)) (hd : Nat.blt d cx.N = true)
    (h : OL cx rx rest ((d, undef) :: e) H) : OL cx rx ((true, ⟨some d, op, ty, pos, af, some (j, b)⟩) :: rest) e H := fun a _ hs hR =>
  ⟨undef, .inr ⟨by rw [wanted_of hs.env hj hl, hc]; cases b <;> simp, rfl⟩, h _ _ (hs.put hd) hR⟩

/-- What an operation that does something does: 'Ef .. K': whatever it leaves, K holds of it. -/
def Ef (cx : Cx) (e : Env) (H : List HP) (o : Oper) (K : Env → List HP → Prop) : Prop :=
  ∀ a w, Sat cx e H a w → ∀ (Q : Exit → Act → World → Prop) (next : Act → World → Prop),
    (∀ e' H', K e' H' → ∀ a' w', Sat cx e' H' a' w' → next a' w') → o.wp cx.P a w next Q

theorem OL.act {op : Op} {d : Option Nat} {ty : TypeId} {pos : String} {af : Array Edge} {K : Env → List HP → Prop}
    (hE : Ef cx e H ⟨d, op, ty, pos, af, none⟩ K) (h : ∀ e' H', K e' H' → okAt rx.ps H'.length = true ∧ pick rx.ps H' = rx.R ∧ OL cx rx rest e' H') :
    OL cx rx ((false, ⟨d, op, ty, pos, af, none⟩) :: rest) e H := fun a w hs _ => by
  unfold wpX
  rw [if_pos (show Region.wanted _ _ = true from rfl)]
  refine .inl (hE a w hs _ _ fun e' H' hK a' w' hs' => ?_)
  obtain ⟨h1, h2, h3⟩ := h e' H' hK
  have hR : sl (rx.R ++ cx.F) (hp w') := by
    have := sl.picked h1 hs'.heap
    rwa [h2] at this
  exact ⟨hR, h3 _ _ hs' hR⟩

/-- A guarded operation whose guard says yes is one without a guard. -/
theorem OL.on {d : Option Nat} {op : Op} {ty : TypeId} {pos : String} {af : Array Edge} {j s : Nat} {b c : Bool} (hc : c = b) (hj : (rx.ops[j]?).bind (·.dst) = some s) (hl : look e s = some (.bool c))
    (h : OL cx rx ((false, ⟨d, op, ty, pos, af, none⟩) :: rest) e H) : OL cx rx ((false, ⟨d, op, ty, pos, af, some (j, b)⟩) :: rest) e H := fun a w hs hR => by
  have h1 := h a w hs hR
  unfold wpX at h1 ⊢
  rw [if_pos (show Region.wanted _ _ = true from rfl)] at h1
  rw [wanted_of hs.env hj hl, hc, if_pos (by simp)]
  exact h1
theorem OL.ont {d : Option Nat} {op : Op} {ty : TypeId} {pos : String} {af : Array Edge} {j s : Nat} {b c : Bool} (hc : c = b) (hj : (rx.ops[j]?).bind (·.dst) = some s) (hl : look e s = some (.bool c))
    (h : OL cx rx ((true, ⟨d, op, ty, pos, af, none⟩) :: rest) e H) : OL cx rx ((true, ⟨d, op, ty, pos, af, some (j, b)⟩) :: rest) e H := fun a w hs hR => by
  obtain ⟨v, hy, hw⟩ := h a w hs hR
  refine ⟨v, ?_, hw⟩
  rcases hy with ⟨_, hv⟩ | ⟨hf, _⟩
  · exact .inl ⟨by rw [wanted_of hs.env hj hl, hc]; simp, hv⟩
  · exact absurd hf (by simp [Region.wanted])

/-- The answer of a guard, by cases. -/
theorem OL.guard {s : Nat} {c : Bool} (_hl : look e s = some (.bool c)) (ht : c = true → OL cx rx rest e H) (hf : c = false → OL cx rx rest e H) : OL cx rx rest e H := by
  cases c
  · exact hf rfl
  · exact ht rfl

/-- A question that is decided by cases. -/
theorem OL.bool {c : Bool} (ht : c = true → OL cx rx rest e H) (hf : c = false → OL cx rx rest e H) : OL cx rx rest e H := by
  cases c
  · exact hf rfl
  · exact ht rfl
end

theorem yes {p : Prop} [Decidable p] (h : decide p = true) : p := of_decide_eq_true h
theorem no {p : Prop} [Decidable p] (h : decide p = false) : ¬ p := of_decide_eq_false h
theorem nyes {b : Bool} (h : (!b) = true) : b = false := by simpa using h
theorem nno {b : Bool} (h : (!b) = false) : b = true := by simpa using h
theorem nne {α : Type _} {x y : α} (h : ¬ x ≠ y) : x = y := Classical.not_not.1 h

/-! ### regions -/
theorem wpX_list {P : Program} {ops : Array Oper} {Q : Exit → Act → World → Prop} {S : World → Prop} : ∀ (l : List Oper) (a : Act) (w : World), wpX P ops Q S (l.map (false, ·)) a w → wpList P ops Q l a w
  | [], _, _, h => h
  | o :: l, a, w, h => by
    simp only [List.map_cons, wpX] at h
    unfold wpList
    split
    · rename_i hw
      rw [if_pos hw] at h
      exact h.imp (fun h => Oper.wp_mono (fun a w h => wpX_list l a w h.2) h) id
    · rename_i hw
      rw [if_neg hw] at h
      exact wpX_list l _ _ h

theorem wpX_mono {P : Program} {ops : Array Oper} {Q : Exit → Act → World → Prop} {S S' : World → Prop} (hS : ∀ w, S w → S' w) : ∀ (l : List (Bool × Oper)) (a : Act) (w : World), (∀ x ∈ l, x.1 = false) → wpX P ops Q S l a w → wpX P ops Q S' l a w
  | [], _, _, _, h => h
  | (true, o) :: l, _, _, hl, _ => absurd (hl (true, o) (by simp)) (by simp)
  | (false, o) :: l, a, w, hl, h => by
    unfold wpX at h ⊢
    split
    · rename_i hw
      rw [if_pos hw] at h
      exact h.imp (fun h => Oper.wp_mono (fun a w h => ⟨hS _ h.1, wpX_mono hS l a w (fun x hx => hl x (by simp [hx])) h.2⟩) h) id
    · rename_i hw
      rw [if_neg hw] at h
      exact wpX_mono hS l _ _ (fun x hx => hl x (by simp [hx])) h
def plain (l : List Oper) : List (Bool × Oper) := l.map (false, ·)

theorem CW.region {cx : Cx} {id : Nat} {ops : List Oper} {Q : Exit → Act → World → Prop} {e : Env} {H : List HP}
    (h : OL cx ⟨ops.toArray, Q, [], []⟩ (plain ops) e H) : CW cx (.region id ops.toArray false) Q e H := fun a w hs =>
  wp_region_lit (wpX_list _ _ _ (h a w hs (by obtain ⟨_, _, _, _, e2, _, s2⟩ := hs.heap.split; exact s2.mono e2)))

def inOrder (ops : List Oper) : List (Bool × Nat) → List (Bool × Oper)
  | [] => []
  | (t, i) :: l => match nth ops i with | some o => (t, o) :: inOrder ops l | none => inOrder ops l

theorem inOrder_false (ops : List Oper) : ∀ (l : List Nat), ∀ x ∈ inOrder ops (l.map (false, ·)), x.1 = false
  | [], _, h => nomatch h
  | i :: l, x, h => by
    simp only [List.map_cons, inOrder] at h
    split at h
    · rcases List.mem_cons.1 h with rfl | h
      · rfl
      · exact inOrder_false ops l x h
    · exact inOrder_false ops l x h

/-- A first part of the operations ('pre'), in whatever order, S kept behind each; then the others. -/
def wpAnyT (P : Program) (ops : Array Oper) (Q : Exit → Act → World → Prop) (S : World → Prop) (pre : List Nat) : Nat → Array Bool → Act → World → Prop
  | 0, listed, a, w => if pre.all (fun k => listed.getD k true) then wpAny P .any ops Q 0 listed a w else Region.ready .any ops listed = [] ∧ Q .normal a w
  | fuel + 1, listed, a, w => if pre.all (fun k => listed.getD k true) then wpAny P .any ops Q (fuel + 1) listed a w else
    (Region.ready .any ops listed = [] → Q .normal a w) ∧
    ∀ i ∈ Region.ready .any ops listed, wpOp P ops Q i (fun a' w' => S w' ∧ wpAnyT P ops Q S pre fuel (listed.setIfInBounds i true) a' w') a w

section
variable {P : Program} {ops : Array Oper} {Q : Exit → Act → World → Prop} {S : World → Prop} {pre : List Nat}

theorem wpAny_of_T : ∀ (fuel : Nat) (listed : Array Bool) (a : Act) (w : World), wpAnyT P ops Q S pre fuel listed a w → wpAny P .any ops Q fuel listed a w
  | 0, listed, a, w, h => by
    unfold wpAnyT at h
    split at h
    · exact h
    · exact h
  | fuel + 1, listed, a, w, h => by
    unfold wpAnyT at h
    split at h
    · exact h
    · exact ⟨h.1, fun i hi => wpOp_mono (fun a' w' h' => wpAny_of_T fuel _ a' w' h'.2) (h.2 i hi)⟩

theorem wpAnyT_first {i : Nat} {oi : Oper} {v : Value} (hi : ops[i]? = some oi) (hsel : ∀ (j : Nat) (o : Oper) cs b, ops[j]? = some o → o.op ≠ .select cs b)
    (hQ : ∀ c a w, Q (.panic c) (a.put oi.dst v) w → Q (.panic c) a w) (hpre : pre.contains i = true)
    (htail : ∀ j oj, ops[j]? = some oj → pre.contains j = false → ∃ e ∈ oj.after, Region.binds .any e = true ∧ e.on = i) :
    ∀ (fuel : Nat) (listed : Array Bool) (a : Act) (w : World),
      (∀ j oj, ops[j]? = some oj → j ≠ i → listed.getD j true = false → (∀ e ∈ oj.after, Region.binds .any e = true → e.on ≠ i) → oi.apart ops oj = true) →
      i ∈ Region.ready .any ops listed → YieldsIf P ops S oi v a → S w →
      wpAnyT P ops Q S pre fuel (listed.setIfInBounds i true) (a.put oi.dst v) w → wpAnyT P ops Q S pre (fuel + 1) listed a w := by
  intro fuel
  induction fuel with
  | zero =>
    intro listed a w _ hr hy hS H
    have hun : listed.getD i true = false := (mem_ready.1 hr).1
    have hnd : pre.all (fun k => listed.getD k true) = false := by
      rw [Bool.eq_false_iff]
      intro h
      have := List.all_eq_true.1 h i (by simpa using hpre)
      rw [hun] at this; cases this
    unfold wpAnyT
    rw [hnd]
    simp only [Bool.false_eq_true, if_false]
    have Hr : Region.ready .any ops (listed.setIfInBounds i true) = [] := by
      unfold wpAnyT at H
      split at H
      · exact H.1
      · exact H.1
    refine ⟨fun h => (by rw [h] at hr; cases hr), fun j hj => ?_⟩
    by_cases hji : j = i
    · subst hji; exact hy.wpOp hi hS ⟨hS, H⟩
    · have := ready_mono hj hji
      rw [Hr] at this
      cases this
  | succ fuel ih =>
    intro listed a w hfree hr hy hS H
    have hun : listed.getD i true = false := (mem_ready.1 hr).1
    have hnd : pre.all (fun k => listed.getD k true) = false := by
      rw [Bool.eq_false_iff]
      intro h
      have := List.all_eq_true.1 h i (by simpa using hpre)
      rw [hun] at this; cases this
    unfold wpAnyT
    rw [hnd]
    simp only [Bool.false_eq_true, if_false]
    refine ⟨fun h => (by rw [h] at hr; cases hr), fun j hj => ?_⟩
    by_cases hji : j = i
    · subst hji; exact hy.wpOp hi hS ⟨hS, H⟩
    · obtain ⟨hjun, oj, hoj, hall⟩ := mem_ready.1 hj
      have hnot : ∀ e ∈ oj.after, Region.binds .any e = true → e.on ≠ i := fun e he hb heq => by
        have h1 := hall e he hb
        rw [heq] at h1
        rcases Nat.lt_or_ge i listed.size with h' | h'
        · simp [h'] at hun h1; rw [hun] at h1; cases h1
        · simp [Array.getElem?_eq_none h'] at h1
      have hjpre : pre.contains j = true := by
        cases hc : pre.contains j with
        | true => rfl
        | false =>
          obtain ⟨e, he, hb, heq⟩ := htail j oj hoj hc
          exact absurd heq (hnot e he hb)
      have hnd2 : pre.all (fun k => (listed.setIfInBounds i true).getD k true) = false := by
        rw [Bool.eq_false_iff]
        intro h
        have := List.all_eq_true.1 h j (by simpa using hjpre)
        rw [getD_set_ne true (Ne.symm hji)] at this
        rw [hjun] at this; cases this
      unfold wpAnyT at H
      rw [hnd2] at H
      simp only [Bool.false_eq_true, if_false] at H
      have h1 := H.2 j (ready_mono hj hji)
      have h2 := wpOp_putIf hoj (hfree j oj hoj hji hjun hnot) (fun cs b => hsel i oi cs b hi) (fun cs b => hsel j oj cs b hoj) hQ hy h1
      have hfree' : ∀ k ok, ops[k]? = some ok → k ≠ i → (listed.setIfInBounds j true).getD k true = false →
          (∀ e ∈ ok.after, Region.binds .any e = true → e.on ≠ i) → oi.apart ops ok = true := fun k ok hk hki hun hno => by
        refine hfree k ok hk hki ?_ hno
        by_cases hjk : j = k
        · subst hjk; exact hjun
        · rw [getD_set_ne true hjk] at hun; exact hun
      refine wpOp_mono (fun a' w' h3 => ⟨h3.2.1, ih (listed.setIfInBounds j true) a' w' hfree' (ready_mono hr (Ne.symm hji)) h3.1 h3.2.1 ?_⟩) h2
      rw [Array.setIfInBounds_comm _ _ hji]
      exact h3.2.2
end

/-- Every operation that is not of the first part waits for this one. -/
def waits (ops : Array Oper) (pre : List Nat) (i : Nat) : Bool :=
  (List.range ops.size).all fun j => pre.contains j || (match ops[j]? with | some o => o.after.any (fun e => Region.binds .any e && e.on == i) | none => true)
theorem waits_spec {ops : Array Oper} {pre : List Nat} {i : Nat} (h : waits ops pre i = true) : ∀ j oj, ops[j]? = some oj → pre.contains j = false → ∃ e ∈ oj.after, Region.binds .any e = true ∧ e.on = i := by
  intro j oj hj hc
  have hlt : j < ops.size := (Array.getElem?_eq_some_iff.1 hj).1
  have h1 := List.all_eq_true.1 h j (List.mem_range.2 hlt)
  simp only [hj, hc, Bool.false_or] at h1
  obtain ⟨e, he, h2⟩ := Array.any_eq_true'.1 h1
  simp only [Bool.and_eq_true, beq_iff_eq] at h2
  exact ⟨e, he, h2.1, h2.2⟩

/-- An order: of the first part those that are marked may be taken first, each other one is the only one that may come up; so is each of the others, in theirs. -/
def okTail (ops : Array Oper) : List Nat → Array Bool → Bool
  | [], listed => (Region.ready .any ops listed).isEmpty
  | i :: l, listed => Region.ready .any ops listed == [i] && okTail ops l (listed.setIfInBounds i true)
def okPre (ops : Array Oper) (pre : List Nat) (tail : List Nat) : List (Bool × Nat) → Array Bool → Bool
  | [], listed => pre.all (fun k => listed.getD k true) && okTail ops tail listed
  | (t, i) :: l, listed =>
    !pre.all (fun k => listed.getD k true) &&
    (if t then Region.free .any ops listed i && (Region.ready .any ops listed).contains i && pre.contains i && waits ops pre i else Region.ready .any ops listed == [i]) && okPre ops pre tail l (listed.setIfInBounds i true)

theorem wpX_tail {P : Program} {ops : List Oper} {Q : Exit → Act → World → Prop} :
    ∀ (l : List Nat) (listed : Array Bool) (a : Act) (w : World), okTail ops.toArray l listed = true → (∀ x ∈ l, x < ops.length) → wpX P ops.toArray Q (fun _ => True) (inOrder ops (l.map (false, ·))) a w →
      ∀ fuel, l.length ≤ fuel → wpAny P .any ops.toArray Q fuel listed a w
  | [], listed, a, w, hok, _, h, fuel, _ => by
    have hr : Region.ready .any ops.toArray listed = [] := by simpa [okTail] using hok
    cases fuel with
    | zero => exact ⟨hr, h⟩
    | succ n => exact ⟨fun _ => h, fun i hi => by rw [hr] at hi; cases hi⟩
  | i :: l, listed, a, w, hok, hin, h, fuel, hf => by
    have hi : i < ops.length := hin i (by simp)
    obtain ⟨n, rfl⟩ : ∃ n, fuel = n + 1 := ⟨fuel - 1, by simp at hf; omega⟩
    have hf' : l.length ≤ n := by simpa using hf
    obtain ⟨o, ho⟩ : ∃ o, nth ops i = some o := ⟨ops[i], by rw [nth_eq]; exact List.getElem?_eq_getElem hi⟩
    have ho' : ops.toArray[i]? = some o := by rw [nth_eq] at ho; simpa using ho
    simp only [List.map_cons, inOrder, ho] at h
    simp only [okTail, Bool.and_eq_true, beq_iff_eq] at hok
    obtain ⟨h1, h2⟩ := hok
    have hin' : ∀ x ∈ l, x < ops.length := fun x hx => hin x (by simp [hx])
    refine ⟨(fun h0 => by rw [h0] at h1; cases h1), fun j hj => ?_⟩
    have hji : j = i := by rw [h1] at hj; simpa using hj
    subst hji
    simp only [wpX] at h
    unfold wpOp
    simp only [ho']
    split
    · rename_i hw
      rw [if_pos hw] at h
      exact h.imp (fun h => Oper.wp_mono (fun a w h => wpX_tail l _ _ _ h2 hin' h.2 n hf') h) id
    · rename_i hw
      rw [if_neg hw] at h
      exact wpX_tail l _ _ _ h2 hin' h n hf'

theorem Oper.wp_then {P : Program} {o : Oper} {a : Act} {w : World} {K next : Act → World → Prop} {Q : Exit → Act → World → Prop} (h : o.wp P a w next (Exit.then K Q)) : o.wp P a w next Q := by
  unfold Oper.wp at *
  generalize (execOp a.eval o).run P w = r at *
  cases r with
  | ok n w' =>
    cases n <;> simp only [Oper.upon] at h ⊢ <;>
      first
        | exact h
        | exact Calls.mono h (fun e w'' he => by cases e <;> exact he)
        | exact Rows.mono h (fun _ _ he => he)
  | halt x w' => cases x <;> simp only [Oper.upon] at h ⊢ <;> exact h
theorem LetsOut.then {K : Act → World → Prop} {Q : Exit → Act → World → Prop} (h : LetsOut (Exit.then K Q)) : LetsOut Q := h

theorem wpX_pre {P : Program} {ops : List Oper} {Q : Exit → Act → World → Prop} {S : World → Prop} {pre tail : List Nat} (hs : Region.noSelect ops.toArray = true) (hQ : ∀ c a a' w, Q (.panic c) a w → Q (.panic c) a' w) (htl : ∀ x ∈ tail, x < ops.length) :
    ∀ (l : List (Bool × Nat)) (listed : Array Bool) (a : Act) (w : World), okPre ops.toArray pre tail l listed = true → (∀ x ∈ l, x.2 < ops.length) → S w →
      wpX P ops.toArray (Exit.then (fun a w => wpX P ops.toArray Q (fun _ => True) (inOrder ops (tail.map (false, ·))) a w) Q) S (inOrder ops l) a w →
      ∀ fuel, l.length + tail.length ≤ fuel → wpAnyT P ops.toArray Q S pre fuel listed a w
  | [], listed, a, w, hok, _, _, h, fuel, hf => by
    simp only [okPre, Bool.and_eq_true] at hok
    have hT := wpX_tail tail listed a w hok.2 htl h fuel (by simpa using hf)
    cases fuel with
    | zero => unfold wpAnyT; rw [hok.1]; exact hT
    | succ n => unfold wpAnyT; rw [hok.1]; exact hT
  | (t, i) :: l, listed, a, w, hok, hin, hS, h, fuel, hf => by
    have hi : i < ops.length := hin (t, i) (by simp)
    obtain ⟨n, rfl⟩ : ∃ n, fuel = n + 1 := ⟨fuel - 1, by simp at hf; omega⟩
    have hf' : l.length + tail.length ≤ n := by simp at hf; omega
    obtain ⟨o, ho⟩ : ∃ o, nth ops i = some o := ⟨ops[i], by rw [nth_eq]; exact List.getElem?_eq_getElem hi⟩
    have ho' : ops.toArray[i]? = some o := by rw [nth_eq] at ho; simpa using ho
    simp only [inOrder, ho] at h
    simp only [okPre, Bool.and_eq_true, Bool.not_eq_true'] at hok
    obtain ⟨⟨h0, h1⟩, h2⟩ := hok
    have hin' : ∀ x ∈ l, x.2 < ops.length := fun x hx => hin x (by simp [hx])
    cases t with
    | true =>
      simp only [if_true, Bool.and_eq_true] at h1
      obtain ⟨v, hy, hw⟩ := h
      exact wpAnyT_first ho' (Region.noSelect_spec hs) (fun c a w => hQ c _ _ w) h1.1.2 (waits_spec h1.2) n listed a w (Region.free_spec ho' h1.1.1.1) (by simpa using h1.1.1.2) hy hS
        (wpX_pre hs hQ htl l _ _ _ h2 hin' hS hw n hf')
    | false =>
      simp only [Bool.false_eq_true, if_false, beq_iff_eq] at h1
      unfold wpAnyT
      rw [h0]
      simp only [Bool.false_eq_true, if_false]
      refine ⟨(fun h0 => by rw [h0] at h1; cases h1), fun j hj => ?_⟩
      have hji : j = i := by rw [h1] at hj; simpa using hj
      subst hji
      simp only [wpX] at h
      unfold wpOp
      simp only [ho']
      split
      · rename_i hw
        rw [if_pos hw] at h
        exact h.imp (fun h => Oper.wp_mono (fun a w h => ⟨h.1, wpX_pre hs hQ htl l _ _ _ h2 hin' h.1 h.2 n hf'⟩) (Oper.wp_then h)) (fun h => ⟨h.1, LetsOut.then h.2⟩)
      · rename_i hw
        rw [if_neg hw] at h
        exact ⟨hS, wpX_pre hs hQ htl l _ _ _ h2 hin' hS h n hf'⟩

/-- Where a panic leads hangs on no slot. -/
def PanicOk (Q : Exit → Act → World → Prop) : Prop := ∀ c a a' w, Q (.panic c) a w → Q (.panic c) a' w

/-- Behind the first part: the others, one by one. -/
def Tail (cx : Cx) (ops : List Oper) (Q : Exit → Act → World → Prop) (tail : List Nat) : Exit → Act → World → Prop :=
  Exit.then (fun a w => wpX cx.P ops.toArray Q (fun _ => True) (inOrder ops (tail.map (false, ·))) a w) Q
theorem EX.tail {cx : Cx} {ops : List Oper} {Q : Exit → Act → World → Prop} {tail : List Nat} {e : Env} {H : List HP} (h : OL cx ⟨ops.toArray, Q, [], []⟩ (inOrder ops (tail.map (false, ·))) e H) : EX cx .normal (Tail cx ops Q tail) e H := fun a w hs => by
  refine wpX_mono (fun _ _ => trivial) _ _ _ (inOrder_false ops tail) (h a w hs ?_)
  have := hs.heap.split
  obtain ⟨_, _, _, _, e2, _, s2⟩ := this
  exact s2.mono e2

/-- A region that draws its order, walked in one order. -/
theorem CW.drawn {cx : Cx} {id : Nat} {ops : List Oper} {Q : Exit → Act → World → Prop} {e : Env} {H : List HP} (order : List (Bool × Nat)) (tail : List Nat) (ps : List Nat)
    (hm : cx.P.follows .mixedOrders = true) (hs : Region.noSelect ops.toArray = true) (hQ : PanicOk Q)
    (hok : okPre ops.toArray (order.map (·.2)) tail order (Array.replicate ops.length false) = true) (hin : order.all (fun x => decide (x.2 < ops.length)) = true) (hin2 : tail.all (fun x => decide (x < ops.length)) = true) (hlen : Nat.ble (order.length + tail.length) ops.length = true)
    (hps : okAt ps H.length = true) (h : OL cx ⟨ops.toArray, Tail cx ops Q tail, ps, pick ps H⟩ (inOrder ops order) e H) : CW cx (.region id ops.toArray true) Q e H := fun a w hsat => by
  have hR : sl (pick ps H ++ cx.F) (hp w) := sl.picked hps hsat.heap
  have hsat' : Sat cx e H a { w with drawn := w.drawn + 1 } := hsat.world (St.drawn w _) hsat.heap
  refine wp_region_any hm ?_
  have := wpX_pre (S := fun w => sl (pick ps H ++ cx.F) (hp w)) hs (fun c a a' w => hQ c a a' w) (fun x hx => by simpa using List.all_eq_true.1 hin2 x hx) order (Array.replicate ops.length false) a { w with drawn := w.drawn + 1 } hok
    (fun x hx => by simpa using List.all_eq_true.1 hin x hx) hR (h a _ hsat' hR) ops.length (Nat.le_of_ble_eq_true hlen)
  simpa using wpAny_of_T _ _ _ _ this

end Go.Sx
