/- Heap assertions as lists of chunks (each true of its own part of the heap), and what worlds they speak of. No program here. -/
import Derived.Tactics
import Derived.OrdersHeld
namespace Go.Sx

/-- A part of the heap: some blocks, each with what it holds. -/
abbrev PH := Nat → Option Obj
/-- A chunk: what it says of a part of the heap. -/
abbrev HP := PH → Prop

def le (h k : PH) : Prop := ∀ b o, h b = some o → k b = some o
def dj (h k : PH) : Prop := ∀ b, h b = none ∨ k b = none

theorem le.refl (h : PH) : le h h := fun _ _ e => e
theorem le.trans {a b c : PH} (h : le a b) (k : le b c) : le a c := fun x o e => k x o (h x o e)
theorem dj.symm {a b : PH} (h : dj a b) : dj b a := fun x => (h x).symm
theorem dj.mono {a b c d : PH} (h : dj a b) (h1 : le c a) (h2 : le d b) : dj c d := fun x => by
  rcases h x with e | e
  · left; cases hc : c x with
    | none => rfl
    | some o => rw [h1 x o hc] at e; cases e
  · right; cases hc : d x with
    | none => rfl
    | some o => rw [h2 x o hc] at e; cases e

/-- All chunks of a list hold of parts of h that have nothing in common. What h has besides is of no matter. -/
def sl : List HP → PH → Prop
  | [], _ => True
  | p :: l, h => ∃ h1 h2, dj h1 h2 ∧ le h1 h ∧ le h2 h ∧ p h1 ∧ sl l h2

/-- Nothing. -/
def emp : HP := fun _ => True

theorem sl.mono {l : List HP} {h k : PH} (hs : sl l h) (hk : le h k) : sl l k := by
  cases l with
  | nil => trivial
  | cons p l =>
    obtain ⟨h1, h2, d, e1, e2, hp, hl⟩ := hs
    exact ⟨h1, h2, d, e1.trans hk, e2.trans hk, hp, hl⟩

def un (h k : PH) : PH := fun b => match h b with | some o => some o | none => k b
theorem le_un_left (h k : PH) : le h (un h k) := fun b o e => by simp [un, e]
theorem le_un_right {h k : PH} (d : dj h k) : le k (un h k) := fun b o e => by
  rcases d b with e' | e'
  · simp [un, e', e]
  · rw [e] at e'; cases e'
theorem un_le {h k m : PH} (h1 : le h m) (h2 : le k m) : le (un h k) m := fun b o e => by
  unfold un at e
  cases hb : h b with
  | some o' => rw [hb] at e; cases e; exact h1 b o hb
  | none => rw [hb] at e; exact h2 b o e
theorem dj_un {h k m : PH} (h1 : dj h m) (h2 : dj k m) : dj (un h k) m := fun b => by
  rcases h1 b with e | e
  · rcases h2 b with e' | e'
    · left; simp [un, e, e']
    · right; exact e'
  · right; exact e

theorem sl.swap {p q : HP} {l : List HP} {h : PH} (hs : sl (p :: q :: l) h) : sl (q :: p :: l) h := by
  obtain ⟨h1, h2, d, e1, e2, hp, k1, k2, d', f1, f2, hq, hl⟩ := hs
  refine ⟨k1, un h1 k2, ?_, f1.trans e2, un_le e1 (f2.trans e2), hq, h1, k2, ?_, le_un_left _ _, le_un_right ?_, hp, hl⟩
  · exact (dj_un (d.mono (le.refl _) f1) d'.symm).symm
  · exact d.mono (le.refl _) f2
  · exact d.mono (le.refl _) f2

theorem sl.tail_mono {p : HP} {l l' : List HP} (hl : ∀ h, sl l h → sl l' h) {h : PH} (hs : sl (p :: l) h) : sl (p :: l') h := by
  obtain ⟨h1, h2, d, e1, e2, hp, k⟩ := hs
  exact ⟨h1, h2, d, e1, e2, hp, hl _ k⟩

theorem sl.head_mono {p q : HP} {l : List HP} (hp : ∀ h, p h → q h) {h : PH} (hs : sl (p :: l) h) : sl (q :: l) h := by
  obtain ⟨h1, h2, d, e1, e2, k, r⟩ := hs
  exact ⟨h1, h2, d, e1, e2, hp _ k, r⟩

theorem sl.perm {l l' : List HP} (hp : l.Perm l') : ∀ {h : PH}, sl l h → sl l' h := by
  induction hp with
  | nil => exact fun h => h
  | cons x _ ih => exact fun h => h.tail_mono (fun _ => ih)
  | swap x y l => exact fun h => h.swap
  | trans _ _ ih1 ih2 => exact fun h => ih2 (ih1 h)

theorem sl.drop {p : HP} {l : List HP} {h : PH} (hs : sl (p :: l) h) : sl l h := by
  obtain ⟨h1, h2, d, e1, e2, hp, k⟩ := hs
  exact k.mono e2

theorem sl.sublist {l l' : List HP} (hs : l'.Sublist l) : ∀ {h : PH}, sl l h → sl l' h := by
  induction hs with
  | slnil => exact fun h => h
  | cons x _ ih => exact fun h => ih h.drop
  | cons_cons x _ ih => exact fun h => h.tail_mono (fun _ => ih)

theorem no_le (h : PH) : le (fun _ => none) h := fun _ _ e => nomatch e
theorem sl_emp {l : List HP} {h : PH} (hs : sl l h) : sl (emp :: l) h :=
  ⟨fun _ => none, h, fun _ => .inl rfl, no_le h, le.refl _, trivial, hs⟩

theorem sl.split {l1 l2 : List HP} : ∀ {h : PH}, sl (l1 ++ l2) h → ∃ h1 h2, dj h1 h2 ∧ le h1 h ∧ le h2 h ∧ sl l1 h1 ∧ sl l2 h2 := by
  induction l1 with
  | nil => exact fun {h} hs => ⟨fun _ => none, h, fun _ => .inl rfl, no_le h, le.refl _, trivial, hs⟩
  | cons p l ih =>
    intro h hs
    obtain ⟨k1, k2, d, e1, e2, hp, hl⟩ := hs
    obtain ⟨m1, m2, d', f1, f2, s1, s2⟩ := ih hl
    refine ⟨un k1 m1, m2, dj_un (d.mono (le.refl _) f2) d', un_le e1 (f1.trans e2), f2.trans e2, ?_, s2⟩
    exact ⟨k1, m1, d.mono (le.refl _) f1, le_un_left _ _, le_un_right (d.mono (le.refl _) f1), hp, s1⟩

theorem sl.join {l1 l2 : List HP} : ∀ {h h1 h2 : PH}, dj h1 h2 → le h1 h → le h2 h → sl l1 h1 → sl l2 h2 → sl (l1 ++ l2) h := by
  induction l1 with
  | nil => intro h h1 h2 _ _ e2 _ s2; exact s2.mono e2
  | cons p l ih =>
    intro h h1 h2 d e1 e2 s1 s2
    obtain ⟨k1, k2, d', f1, f2, hp, hl⟩ := s1
    refine ⟨k1, un k2 h2, ?_, f1.trans e1, un_le (f2.trans e1) e2, hp, ih (d.mono f2 (le.refl _)) (le_un_left _ _) (le_un_right (d.mono f2 (le.refl _))) hl s2⟩
    exact (dj_un d'.symm (d.mono f1 (le.refl _)).symm).symm

/-- A list of chunks as one chunk. -/
def star (l : List HP) : HP := sl l
theorem sl_star {l l' : List HP} {h : PH} : sl (star l :: l') h ↔ sl (l ++ l') h :=
  ⟨fun ⟨_, _, d, e1, e2, s1, s2⟩ => sl.join d e1 e2 s1 s2, fun hs => let ⟨h1, h2, d, e1, e2, s1, s2⟩ := hs.split; ⟨h1, h2, d, e1, e2, s1, s2⟩⟩
/-- A chunk under a choice. -/
theorem sl_ex {α : Sort _} {p : α → HP} {l : List HP} {h : PH} (hs : sl ((fun k => ∃ x, p x k) :: l) h) : ∃ x, sl (p x :: l) h := by
  obtain ⟨h1, h2, d, e1, e2, ⟨x, hp⟩, s2⟩ := hs
  exact ⟨x, h1, h2, d, e1, e2, hp, s2⟩
/-- A chunk and what is plainly true. -/
theorem sl_pure {c : Prop} {p : HP} {l : List HP} {h : PH} (hs : sl ((fun k => c ∧ p k) :: l) h) : c ∧ sl (p :: l) h := by
  obtain ⟨h1, h2, d, e1, e2, ⟨hc, hp⟩, s2⟩ := hs
  exact ⟨hc, h1, h2, d, e1, e2, hp, s2⟩
theorem sl_pure_mk {c : Prop} {p : HP} {l : List HP} {h : PH} (hc : c) (hs : sl (p :: l) h) : sl ((fun k => c ∧ p k) :: l) h :=
  hs.head_mono fun _ hp => ⟨hc, hp⟩

/-! ### places in a list -/
def nth {α : Type _} : List α → Nat → Option α
  | [], _ => none
  | x :: _, 0 => some x
  | _ :: l, n + 1 => nth l n
theorem nth_eq {α : Type _} (l : List α) (n : Nat) : nth l n = l[n]? := by
  induction l generalizing n with
  | nil => simp [nth]
  | cons x l ih => cases n <;> simp [nth, ih]
theorem nth_append {α : Type _} {l : List α} {n : Nat} {x : α} (h : nth l n = some x) (r : List α) : nth (l ++ r) n = some x := by
  rw [nth_eq] at *
  obtain ⟨hn, hx⟩ := List.getElem?_eq_some_iff.1 h
  rw [List.getElem?_append_left hn, h]

theorem perm_erase {α : Type _} : ∀ (l : List α) (i : Nat) (x : α), nth l i = some x → (x :: l.eraseIdx i).Perm l
  | [], i, x, h => nomatch h
  | y :: l, 0, x, h => by simp [nth] at h; subst h; exact List.Perm.refl _
  | y :: l, i + 1, x, h => by
    simp only [nth] at h
    simp only [List.eraseIdx_cons_succ]
    exact (List.Perm.swap y x _).trans (List.Perm.cons y (perm_erase l i x h))

/-- The chunk at a place, taken to the front. -/
theorem sl.take {l : List HP} {i : Nat} {p : HP} (hi : nth l i = some p) {h : PH} (hs : sl l h) : sl (p :: l.eraseIdx i) h := by
  exact hs.perm (perm_erase l i p hi).symm

/-- .. and another one laid in its place. -/
theorem sl.lay {l : List HP} {i : Nat} {p : HP} (hi : i < l.length) {h : PH} (hs : sl (p :: l.eraseIdx i) h) : sl (l.set i p) h :=
  hs.perm (by
    have h1 := perm_erase (l.set i p) i p (by rw [nth_eq]; simp [hi])
    rwa [List.eraseIdx_set_eq] at h1)

theorem nth_lt {α : Type _} {l : List α} {i : Nat} {p : α} (hi : nth l i = some p) : i < l.length := by
  rw [nth_eq] at hi; exact (List.getElem?_eq_some_iff.1 hi).1

/-- Of some places: their chunks. -/
def pick : List Nat → List HP → List HP
  | [], _ => []
  | i :: is, l => match nth l i with | some p => p :: pick is l | none => pick is l
/-- Nothing left at some places. -/
def wipe : List Nat → List HP → List HP
  | [], l => l
  | i :: is, l => wipe is (l.set i emp)
/-- Other chunks laid at some places: what is over is laid at the end. -/
def place : List Nat → List HP → List HP → List HP
  | [], n, l => l ++ n
  | i :: is, [], l => place is [] (l.set i emp)
  | i :: is, c :: n, l => place is n (l.set i c)

/-- The places are places of the list, each once. -/
def okAt : List Nat → Nat → Bool
  | [], _ => true
  | i :: is, n => decide (i < n) && !is.contains i && okAt is n

theorem nth_set_ne {l : List HP} {i j : Nat} (h : i ≠ j) (p : HP) : nth (l.set i p) j = nth l j := by
  rw [nth_eq, nth_eq, List.getElem?_set_ne h]
theorem nth_set_self {l : List HP} {i : Nat} (h : i < l.length) (p : HP) : nth (l.set i p) i = some p := by
  rw [nth_eq, List.getElem?_set_self h]

theorem pick_set {is : List Nat} {i : Nat} (h : is.contains i = false) (l : List HP) (p : HP) : pick is (l.set i p) = pick is l := by
  induction is with
  | nil => rfl
  | cons j is ih =>
    simp only [List.contains_cons, Bool.or_eq_false_iff, beq_eq_false_iff_ne] at h
    simp only [pick, nth_set_ne h.1, ih h.2]

/-- The chunks of some places, apart from all others. -/
theorem sl.parts {is : List Nat} : ∀ {l : List HP} (F : List HP) {h : PH}, okAt is l.length = true → sl (l ++ F) h → sl (pick is l ++ (wipe is l ++ F)) h := by
  induction is with
  | nil => exact fun {l} F {h} _ hs => hs
  | cons i is ih =>
    intro l F h hok hs
    simp only [okAt, Bool.and_eq_true, decide_eq_true_eq, Bool.not_eq_true'] at hok
    obtain ⟨⟨hi, hnot⟩, hrest⟩ := hok
    obtain ⟨p, hp⟩ : ∃ p, nth l i = some p := ⟨l[i], by rw [nth_eq]; exact List.getElem?_eq_getElem hi⟩
    have h1 : sl (p :: (l.set i emp ++ F)) h := by
      have a1 := hs.take (nth_append hp F)
      have a2 := a1.tail_mono (fun _ => sl_emp) 
      refine a2.tail_mono (fun k hk => ?_)
      have a3 : (l ++ F).set i emp = l.set i emp ++ F := List.set_append_left _ _ hi
      rw [← a3]
      exact hk.lay (by simp; omega)
    simp only [pick, hp, List.cons_append, wipe]
    refine h1.tail_mono (fun k hk => ?_)
    have a4 := ih (l := l.set i emp) F (by simpa using hrest) hk
    rwa [pick_set hnot] at a4

theorem sl.placed {is : List Nat} : ∀ {n l F : List HP} {h : PH}, okAt is l.length = true → sl (n ++ (wipe is l ++ F)) h → sl (place is n l ++ F) h := by
  induction is with
  | nil =>
    intro n l F h _ hs
    simp only [place, wipe] at *
    refine hs.perm ?_
    rw [← List.append_assoc]
    exact List.Perm.append_right F List.perm_append_comm
  | cons i is ih =>
    intro n l F h hok hs
    simp only [okAt, Bool.and_eq_true, decide_eq_true_eq, Bool.not_eq_true'] at hok
    obtain ⟨⟨hi, hnot⟩, hrest⟩ := hok
    cases n with
    | nil => exact ih (by simpa using hrest) hs
    | cons c n =>
      simp only [place]
      refine ih (by simpa using hrest) ?_
      have key : ∀ (is : List Nat) (l : List HP), okAt is l.length = true → is.contains i = false → i < l.length → ∀ {h : PH}, sl (c :: (wipe is (l.set i emp) ++ F)) h → sl (wipe is (l.set i c) ++ F) h := by
        intro is
        induction is with
        | nil =>
          intro l _ _ hi h hs
          simp only [wipe] at *
          have a1 : (l.set i emp ++ F).set i c = l.set i c ++ F := by rw [List.set_append_left _ _ (by simpa using hi), List.set_set]
          rw [← a1]
          refine sl.lay (by simp; omega) ?_
          have a2 := hs
          refine a2.tail_mono (fun k hk => ?_)
          have a3 := hk.take (i := i) (p := emp) (nth_append (nth_set_self hi emp) F)
          exact a3.drop
        | cons j js ihj =>
          intro l hok hno hi h hs
          simp only [okAt, Bool.and_eq_true, decide_eq_true_eq, Bool.not_eq_true'] at hok
          simp only [List.contains_cons, Bool.or_eq_false_iff, beq_eq_false_iff_ne] at hno
          simp only [wipe] at *
          rw [List.set_comm _ _ hno.1]
          rw [List.set_comm _ _ hno.1] at hs
          exact ihj (l.set j emp) (by simpa using hok.2) hno.2 (by simpa using hi) hs
      have a5 : sl (c :: (n ++ (wipe is (l.set i emp) ++ F))) h := hs
      have a6 : sl (n ++ (c :: (wipe is (l.set i emp) ++ F))) h := a5.perm (by simpa using List.perm_middle.symm)
      obtain ⟨h1, h2, d, e1, e2, s1, s2⟩ := a6.split
      exact sl.join d e1 e2 s1 (key is l hrest hnot hi s2)

theorem sl.picked {is : List Nat} {l F : List HP} {h : PH} (hok : okAt is l.length = true) (hs : sl (l ++ F) h) : sl (pick is l ++ F) h := by
  have := hs.parts F hok
  obtain ⟨h1, h2, d, e1, e2, s1, s2⟩ := this.split
  refine sl.join d e1 e2 s1 (sl.sublist (List.sublist_append_right _ _) s2)

/-! ### what follows -/
/-- Whatever has all of these chunks has X. -/
def Ent (l : List HP) (X : HP) : Prop := ∀ h, sl l h → X h
def Up (X : HP) : Prop := ∀ h k, le h k → X h → X k
theorem Ent.at {l : List HP} {X p : HP} (i : Nat) (hi : nth l i = some p) (hu : Up X) (hp : ∀ h, p h → X h) : Ent l X := fun _ hs => by
  obtain ⟨h1, _, _, e1, _, k, _⟩ := hs.take hi
  exact hu _ _ e1 (hp _ k)
theorem Ent.frame {l F : List HP} {X : HP} (hu : Up X) (h : Ent F X) : Ent (l ++ F) X := fun _ hs => by
  obtain ⟨_, _, _, _, e2, _, s2⟩ := hs.split
  exact hu _ _ e2 (h _ s2)

/-! ### worlds -/
def hp (w : World) : PH := fun b => w.heap[b]?

/-- A block holds just this. -/
def pts (b : Nat) (o : Obj) : HP := fun h => h b = some o
/-- A block of cells that may be written. -/
def blk (b : Nat) (cs : List Value) (t : TypeId) : HP := pts b (.cells cs.toArray t (0, 0))
/-- A cell holds this value. -/
def cellIs (b off : Nat) (v : Value) : HP := fun h => ∃ cs t z, h b = some (.cells cs t z) ∧ cs[off]? = some v
theorem Up.cellIs (b off : Nat) (v : Value) : Up (cellIs b off v) := fun _ _ e ⟨cs, t, z, h1, h2⟩ => ⟨cs, t, z, e _ _ h1, h2⟩
theorem Up.pts (b : Nat) (o : Obj) : Up (pts b o) := fun _ _ e h => e _ _ h
theorem blk_cell {b : Nat} {cs : List Value} {t : TypeId} {off : Nat} {v : Value} (hc : nth cs off = some v) : ∀ h, blk b cs t h → cellIs b off v h :=
  fun _ e => ⟨_, _, _, e, by rw [nth_eq] at hc; simpa using hc⟩

theorem cellIs.cell {w : World} {b off : Nat} {v : Value} (h : cellIs b off v (hp w)) : w.cell? ⟨b, off, none⟩ = some v := by
  obtain ⟨cs, t, z, h1, h2⟩ := h
  have : w.heap[b]? = some (.cells cs t z) := h1
  simp [World.cell?, this, h2]

theorem blk.cell {w : World} {b off : Nat} {cs : List Value} {t : TypeId} {v : Value} (h : blk b cs t (hp w)) (hc : nth cs off = some v) : w.cell? ⟨b, off, none⟩ = some v :=
  (blk_cell hc _ h).cell

def upd (h : PH) (b : Nat) (o : Obj) : PH := fun x => if x = b then some o else h x

theorem sl_upd {b : Nat} {o o' : Obj} {l : List HP} {h : PH} (hs : sl (pts b o :: l) h) : sl (pts b o' :: l) (upd h b o') := by
  obtain ⟨h1, h2, d, e1, e2, k, s⟩ := hs
  refine ⟨fun x => if x = b then some o' else none, fun x => if x = b then none else h2 x, ?_, ?_, ?_, by simp [pts], ?_⟩
  · intro x; by_cases hx : x = b <;> simp [hx]
  · intro x y hxy; by_cases hx : x = b <;> simp [hx, upd] at hxy ⊢; exact hxy
  · intro x y hxy; by_cases hx : x = b <;> simp [hx, upd] at hxy ⊢; exact e2 _ _ hxy
  · refine s.mono (fun x y hxy => ?_)
    have hx : x ≠ b := by
      rintro rfl
      rcases d x with e | e
      · have : h1 x = some o := k
        rw [this] at e; cases e
      · rw [hxy] at e; cases e
    simp [hx, hxy]

theorem sl_new {b : Nat} {o : Obj} {l : List HP} {h : PH} (hb : h b = none) (hs : sl l h) : sl (pts b o :: l) (upd h b o) := by
  refine ⟨fun x => if x = b then some o else none, h, ?_, ?_, ?_, by simp [pts], hs⟩
  · intro x; by_cases hx : x = b
    · right; rw [hx]; exact hb
    · left; simp [hx]
  · intro x y hxy; by_cases hx : x = b <;> simp [hx, upd] at hxy ⊢; exact hxy
  · intro x y hxy
    have hx : x ≠ b := by rintro rfl; rw [hb] at hxy; cases hxy
    simp [upd, hx, hxy]

/-- What the world is beside its heap, and that no block goes. -/
structure St (w w' : World) : Prop where
  os : w'.os = w.os
  tape : w'.tape = w.tape
  output : w'.output = w.output
  size : w.heap.size ≤ w'.heap.size
theorem St.refl (w : World) : St w w := ⟨rfl, rfl, rfl, Nat.le_refl _⟩
theorem St.trans {a b c : World} (h : St a b) (k : St b c) : St a c := ⟨k.os.trans h.os, k.tape.trans h.tape, k.output.trans h.output, Nat.le_trans h.size k.size⟩

theorem hp_alloc (w : World) (o : Obj) : hp { w with heap := w.heap.push o } = upd (hp w) w.heap.size o := by
  funext x
  simp only [hp, upd, Array.getElem?_push]
theorem hp_top (w : World) : hp w w.heap.size = none := by simp [hp]
theorem St.alloc (w : World) (o : Obj) : St w { w with heap := w.heap.push o } := ⟨rfl, rfl, rfl, by simp⟩

theorem hp_setCell {w : World} {b off : Nat} {cs : Array Value} {t : TypeId} {z : Nat × Nat} (h : hp w b = some (.cells cs t z)) (v : Value) :
    hp (w.setCell ⟨b, off, none⟩ v) = upd (hp w) b (.cells (cs.setIfInBounds off v) t z) := by
  funext x
  have h' : w.heap[b]? = some (.cells cs t z) := h
  simp only [hp, upd, World.setCell, Array.getElem?_modify]
  by_cases hx : b = x
  · subst hx; simp [h']
  · rw [if_neg hx, if_neg (fun e => hx e.symm)]
theorem St.setCell (w : World) (a : Addr) (v : Value) : St w (w.setCell a v) := ⟨rfl, rfl, rfl, by simp [World.setCell]⟩
theorem St.drawn (w : World) (n : Nat) : St w { w with drawn := n } := ⟨rfl, rfl, rfl, Nat.le_refl _⟩

end Go.Sx
