/- Maps of the call's own. No program here. -/
import Derived.Test.YtmlnnepgigieaaaDoorCode
import GoSem.Instr.MapUpdate
import GoSem.Instr.MakeMap
namespace Go.Sx

/-- The first of a list that has this key, and its number. -/
def findIx {κ : Type} [DecidableEq κ] (k : κ) : List (κ × Value) → Nat → Option (Nat × Value)
  | [], _ => none
  | (x, v) :: l, i => if k = x then some (i, v) else findIx k l (i + 1)
def assoc {κ : Type} [DecidableEq κ] (k : κ) : List (κ × Value) → Option Value
  | [] => none
  | (x, v) :: l => if k = x then some v else assoc k l
def putKey {κ : Type} [DecidableEq κ] (k : κ) (v : Value) : List (κ × Value) → List (κ × Value)
  | [] => [(k, v)]
  | (x, u) :: l => if k = x then (x, v) :: l else (x, u) :: putKey k v l
def delKey {κ : Type} [DecidableEq κ] (k : κ) : List (κ × Value) → List (κ × Value)
  | [] => []
  | (x, u) :: l => if k = x then l else (x, u) :: delKey k l

/-- A type of keys: how a key lies in memory. -/
structure KeyT (P : Program) (kt : TypeId) {κ : Type} [DecidableEq κ] (enc : κ → Value) : Prop where
  find : ∀ (k : κ) (l : List (κ × Value)) (arr : List MapEntry) (w : World), arr.map (fun e => (e.key, e.val)) = l.map (fun p => (enc p.1, p.2)) → (Instr.findKey kt (enc k) arr).run P w = .ok (findIx k l 0) w
  check : ∀ (b : Bool) (k : κ) (w : World), (Instr.checkKey b 10000 kt (enc k)).run P w = .ok () w
  bits : ∀ k, Instr.sameBits 10000 (enc k) (enc k) = true

theorem findNow_of {d : TypeDesc} {κ : Type} [DecidableEq κ] {enc : κ → Value} (h : ∀ k k', Instr.sameNow d (enc k) (enc k') = some (decide (k = k'))) (k : κ) :
    ∀ (l : List (κ × Value)) (arr : List MapEntry) (i : Nat), arr.map (fun e => (e.key, e.val)) = l.map (fun p => (enc p.1, p.2)) → Instr.findNow d (enc k) arr i = some (findIx k l i)
  | [], [], i, _ => rfl
  | [], _ :: _, _, h => by simp at h
  | _ :: _, [], _, h => by simp at h
  | (x, v) :: l, e :: arr, i, ha => by
    simp only [List.map_cons, List.cons.injEq, Prod.mk.injEq] at ha
    obtain ⟨⟨h1, h2⟩, h3⟩ := ha
    simp only [Instr.findNow, h1, h, findIx]
    by_cases hk : k = x
    · simp [hk, h2]
    · simp [hk, findNow_of h k l arr (i + 1) h3]

theorem KeyT.mk' {P : Program} {kt : TypeId} {κ : Type} [DecidableEq κ] {enc : κ → Value} {d : TypeDesc} (hu : P.underlying kt = some d) (h : ∀ k k', Instr.sameNow d (enc k) (enc k') = some (decide (k = k')))
    (hc : ∀ (b : Bool) (k : κ) (w : World), (Instr.checkKey b 10000 kt (enc k)).run P w = .ok () w) (hb : ∀ k, Instr.sameBits 10000 (enc k) (enc k) = true) : KeyT P kt enc where
  find k l arr w ha := by simp [Instr.findKey, run_underlying hu, findNow_of h k l arr 0 ha]
  check := hc
  bits := hb

theorem run_checkKey_string {P : Program} {kt : TypeId} (hu : P.underlying kt = some .string) (n : Nat) (b : Bool) (s : ByteArray) (w : World) : (Instr.checkKey b (n + 1) kt (.string s)).run P w = .ok () w := by
  simp [Instr.checkKey, run_underlying hu]
theorem run_checkKey_int {P : Program} {kt : TypeId} {q : IntKind} (hu : P.underlying kt = some (.int q)) (n : Nat) (b : Bool) (k : IntKind) (s : Int) (w : World) : (Instr.checkKey b (n + 1) kt (.int k s)).run P w = .ok () w := by
  simp [Instr.checkKey, run_underlying hu]
theorem ba_beq (s r : ByteArray) : (s == r) = decide (s = r) := by
  cases s with
  | mk a => cases r with
    | mk b =>
      have h : ((⟨a⟩ : ByteArray) == ⟨b⟩) = (a == b) := rfl
      rw [h, Bool.eq_iff_iff]
      simp
theorem KeyT.string {P : Program} {kt : TypeId} (hu : P.underlying kt = some .string) : KeyT P kt Value.string :=
  KeyT.mk' hu (fun k k' => by
    simp only [Instr.sameNow, Option.some.injEq]
    exact ba_beq k k') (fun b k w => run_checkKey_string hu 9999 b k w) (fun k => by simp [Instr.sameBits, ba_beq])
theorem KeyT.int {P : Program} {kt : TypeId} {q : IntKind} (hu : P.underlying kt = some (.int q)) : KeyT P kt (Value.int q) :=
  KeyT.mk' hu (fun k k' => by
    simp only [Instr.sameNow, if_true, Option.some.injEq]
    rw [Bool.eq_iff_iff]; simp) (fun b k w => run_checkKey_int hu 9999 b q k w) (fun k => by simp [Instr.sameBits])

theorem findIx_assoc {κ : Type} [DecidableEq κ] (k : κ) : ∀ (l : List (κ × Value)) (i : Nat), (findIx k l i).map (·.2) = assoc k l
  | [], _ => rfl
  | (x, v) :: l, i => by simp only [findIx, assoc]; split <;> simp [findIx_assoc k l]
theorem findIx_none {κ : Type} [DecidableEq κ] {k : κ} {v : Value} {l : List (κ × Value)} {i : Nat} (h : findIx k l i = none) : putKey k v l = l ++ [(k, v)] ∧ delKey k l = l := by
  induction l generalizing i with
  | nil => simp [putKey, delKey]
  | cons p l ih =>
    obtain ⟨x, u⟩ := p
    simp only [findIx] at h
    split at h
    · cases h
    · rename_i hk
      have := ih h
      simp [putKey, delKey, hk, this.1, this.2]

/-- A map of the call's own: its keys and what they have, in the order in which they came. -/
def mapc {κ : Type} (enc : κ → Value) (b : Nat) (l : List (κ × Value)) : HP := fun h =>
  ∃ (arr : Array MapEntry) (clock : Nat), h b = some (.map arr clock) ∧ arr.toList.map (fun e => (e.key, e.val)) = l.map (fun p => (enc p.1, p.2)) ∧
    (arr.toList.map (·.born)).Pairwise (· < ·) ∧ ∀ e ∈ arr.toList, e.born < clock

section
variable {cx : Cx} {rx : Rx} {rest : List (Bool × Oper)} {e : Env} {H HH : List HP} {ty : TypeId} {pos : String} {af : Array Edge} {P : Program} {g : Option (Nat × Bool)}
variable {κ : Type} [DecidableEq κ] {enc : κ → Value}

theorem Y.lookup2 {t kt el b d : Nat} {x y : Operand} {k : κ} {l : List (κ × Value)} {z : Value} (i : Nat) (hi : nth HH i = some (mapc enc b l)) (ht : P.underlying t = some (.map kt el)) (hK : KeyT P kt enc) (hz : ∀ w, (zeroValue el).run P w = .ok z w)
    (hx : ev e x = some (.map (some b))) (hy : ev e y = some (enc k)) : Yv P HH e ⟨some d, .lookup t x y true, ty, pos, af, g⟩ (.tuple #[(assoc k l).getD z, .bool (assoc k l).isSome]) := fun a w he hs => by
  obtain ⟨_, _, _, e1, _, ⟨arr, clock, hb, hl, _⟩, _⟩ := hs.take hi
  have hbw : w.heap[b]? = some (.map arr clock) := e1 _ _ hb
  have hf := hK.find k l arr.toList w hl
  have hrun : (Instr.lookup t (.map (some b)) (enc k) true).run P w = .ok (.tuple #[(assoc k l).getD z, .bool (assoc k l).isSome]) w := by
    unfold Instr.lookup
    simp only [Sem.run_bind, run_underlying ht, Result.andThen_ok, getObj, Sem.run, hbw, Sem.run_pure, hK.check, hf]
    rw [← findIx_assoc k l 0]
    cases findIx k l 0 with
    | none => simp [hz]
    | some p => obtain ⟨q, v⟩ := p; simp
  simp [execOp, ev_eval he hx, ev_eval he hy, hrun]

theorem Y.lookup1 {t kt el b d : Nat} {x y : Operand} {k : κ} {l : List (κ × Value)} {z : Value} (i : Nat) (hi : nth HH i = some (mapc enc b l)) (ht : P.underlying t = some (.map kt el)) (hK : KeyT P kt enc) (hz : ∀ w, (zeroValue el).run P w = .ok z w)
    (hx : ev e x = some (.map (some b))) (hy : ev e y = some (enc k)) : Yv P HH e ⟨some d, .lookup t x y false, ty, pos, af, g⟩ ((assoc k l).getD z) := fun a w he hs => by
  obtain ⟨_, _, _, e1, _, ⟨arr, clock, hb, hl, _⟩, _⟩ := hs.take hi
  have hbw : w.heap[b]? = some (.map arr clock) := e1 _ _ hb
  have hf := hK.find k l arr.toList w hl
  have hrun : (Instr.lookup t (.map (some b)) (enc k) false).run P w = .ok ((assoc k l).getD z) w := by
    unfold Instr.lookup
    simp only [Sem.run_bind, run_underlying ht, Result.andThen_ok, getObj, Sem.run, hbw, Sem.run_pure, hK.check, hf]
    rw [← findIx_assoc k l 0]
    cases findIx k l 0 with
    | none => simp [hz]
    | some p => obtain ⟨q, v⟩ := p; simp
  simp [execOp, ev_eval he hx, ev_eval he hy, hrun]

theorem Y.lookup2S {t kt el b d : Nat} {x y : Operand} {k : κ} {l : List (κ × Value)} {z v : Value} (i : Nat) (hi : nth HH i = some (mapc enc b l)) (ht : P.underlying t = some (.map kt el)) (hK : KeyT P kt enc) (hz : ∀ w, (zeroValue el).run P w = .ok z w)
    (hx : ev e x = some (.map (some b))) (hy : ev e y = some (enc k)) (ha : assoc k l = some v) : Yv P HH e ⟨some d, .lookup t x y true, ty, pos, af, g⟩ (.tuple #[v, .bool true]) := by
  have := Y.lookup2 (d := d) (ty := ty) (pos := pos) (af := af) (g := g) i hi ht hK hz hx hy
  simpa [ha] using this
theorem Y.lookup2N {t kt el b d : Nat} {x y : Operand} {k : κ} {l : List (κ × Value)} {z : Value} (i : Nat) (hi : nth HH i = some (mapc enc b l)) (ht : P.underlying t = some (.map kt el)) (hK : KeyT P kt enc) (hz : ∀ w, (zeroValue el).run P w = .ok z w)
    (hx : ev e x = some (.map (some b))) (hy : ev e y = some (enc k)) (ha : assoc k l = none) : Yv P HH e ⟨some d, .lookup t x y true, ty, pos, af, g⟩ (.tuple #[z, .bool false]) := by
  have := Y.lookup2 (d := d) (ty := ty) (pos := pos) (af := af) (g := g) i hi ht hK hz hx hy
  simpa [ha] using this
theorem Y.lookup1S {t kt el b d : Nat} {x y : Operand} {k : κ} {l : List (κ × Value)} {z v : Value} (i : Nat) (hi : nth HH i = some (mapc enc b l)) (ht : P.underlying t = some (.map kt el)) (hK : KeyT P kt enc) (hz : ∀ w, (zeroValue el).run P w = .ok z w)
    (hx : ev e x = some (.map (some b))) (hy : ev e y = some (enc k)) (ha : assoc k l = some v) : Yv P HH e ⟨some d, .lookup t x y false, ty, pos, af, g⟩ v := by
  have := Y.lookup1 (d := d) (ty := ty) (pos := pos) (af := af) (g := g) i hi ht hK hz hx hy
  simpa [ha] using this

omit [DecidableEq κ] in
theorem Y.lenMap {t kt el b d : Nat} {x : Operand} {l : List (κ × Value)} (i : Nat) (hi : nth HH i = some (mapc enc b l)) (ht : P.underlying t = some (.map kt el)) (hx : ev e x = some (.map (some b))) :
    Yv P HH e ⟨some d, .call ⟨.builtin .len, #[x], #[t]⟩, ty, pos, af, g⟩ (.int .i64 l.length) := fun a w he hs => by
  obtain ⟨_, _, _, e1, _, ⟨arr, clock, hb, hl, _⟩, _⟩ := hs.take hi
  have hbw : w.heap[b]? = some (.map arr clock) := e1 _ _ hb
  have hlen : arr.size = l.length := by
    have := congrArg List.length hl
    simpa using this
  simp [execOp, resolve, ev_eval he hx, invoke, builtin, Builtin.len_, run_underlying ht, getObj, Sem.run, hbw, goInt, hlen]

omit [DecidableEq κ] in
theorem OL.makeMap {t d : Nat} (enc : κ → Value) (hd : Nat.blt d cx.N = true) (h : ∀ b, Nx cx rx rest ((d, .map (some b)) :: e) (H ++ [mapc enc b []])) :
    OL cx rx ((false, ⟨some d, .makeMap t none, ty, pos, af, none⟩) :: rest) e H := by
  refine OL.does (fun v H' => ∃ b, v = .map (some b) ∧ H' = H ++ [mapc enc b []]) hd ?_ ?_
  · intro a w he hs
    refine ⟨.map (some w.heap.size), { w with heap := w.heap.push (.map #[] 0) }, ?_, St.alloc w _, _, ⟨w.heap.size, rfl, rfl⟩, ?_⟩
    · simp [execOp, Instr.makeMap]
    · rw [hp_alloc]
      exact sl_pushI (hp_top w) hs fun k hk => ⟨#[], 0, hk, rfl, List.Pairwise.nil, fun _ hx => nomatch hx⟩
  · rintro v H' ⟨b, rfl, rfl⟩; exact h b

theorem hp_setObj (w : World) (b : Nat) (o : Obj) (h : b < w.heap.size) : hp { w with heap := w.heap.setIfInBounds b o } = upd (hp w) b o := by
  funext x
  by_cases hx : x = b
  · subst hx; simp [hp, upd, h]
  · simp [hp, upd, hx, Array.getElem?_setIfInBounds_ne (Ne.symm hx)]

theorem born_modify (l : List MapEntry) (j : Nat) (f : MapEntry → MapEntry) (hf : ∀ e, (f e).born = e.born) : (l.modify j f).map (·.born) = l.map (·.born) := by
  apply List.ext_getElem?
  intro q
  simp only [List.getElem?_map, List.getElem?_modify]
  cases l[q]? with
  | none => rfl
  | some x => simp only [Option.map_some]; split <;> simp [hf]

theorem modify_put {κ : Type} [DecidableEq κ] {enc : κ → Value} {k : κ} {v : Value} : ∀ (l : List (κ × Value)) (arr : List MapEntry) (i : Nat) (u : Value), arr.map (fun e => (e.key, e.val)) = l.map (fun p => (enc p.1, p.2)) → findIx k l 0 = some (i, u) →
    (arr.modify i fun e => { e with key := enc k, val := v }).map (fun e => (e.key, e.val)) = (putKey k v l).map (fun p => (enc p.1, p.2)) ∧ (arr[i]?).map (·.key) = some (enc k) := by
  intro l
  have gen : ∀ (l : List (κ × Value)) (arr : List MapEntry) (j i : Nat) (u : Value), arr.map (fun e => (e.key, e.val)) = l.map (fun p => (enc p.1, p.2)) → findIx k l j = some (i, u) → j ≤ i ∧
      (arr.modify (i - j) fun e => { e with key := enc k, val := v }).map (fun e => (e.key, e.val)) = (putKey k v l).map (fun p => (enc p.1, p.2)) ∧ (arr[i - j]?).map (·.key) = some (enc k) := by
    intro l
    induction l with
    | nil => intro arr j i u _ h; cases h
    | cons p l ih =>
      obtain ⟨x, y⟩ := p
      intro arr j i u ha hf
      cases arr with
      | nil => simp at ha
      | cons e arr =>
        simp only [List.map_cons, List.cons.injEq, Prod.mk.injEq] at ha
        obtain ⟨⟨h1, h2⟩, h3⟩ := ha
        simp only [findIx] at hf
        split at hf
        · rename_i hk
          cases hf
          subst hk
          refine ⟨Nat.le_refl _, ?_, ?_⟩
          · simp [putKey, h3]
          · simp [h1]
        · rename_i hk
          obtain ⟨hle, h4, h5⟩ := ih arr (j + 1) i u h3 hf
          refine ⟨by omega, ?_, ?_⟩
          · rw [show i - j = (i - (j + 1)) + 1 by omega]
            simp [putKey, hk, h1, h2, h4]
          · rw [show i - j = (i - (j + 1)) + 1 by omega]
            simpa using h5
  intro arr i u ha hf
  have := gen l arr 0 i u ha hf
  exact ⟨this.2.1, this.2.2⟩

theorem erase_del {κ : Type} [DecidableEq κ] {enc : κ → Value} {k : κ} : ∀ (l : List (κ × Value)) (arr : List MapEntry) (j i : Nat) (u : Value), arr.map (fun e => (e.key, e.val)) = l.map (fun p => (enc p.1, p.2)) → findIx k l j = some (i, u) →
    j ≤ i ∧ (arr.eraseIdx (i - j)).map (fun e => (e.key, e.val)) = (delKey k l).map (fun p => (enc p.1, p.2)) := by
  intro l
  induction l with
  | nil => intro arr j i u _ h; cases h
  | cons p l ih =>
    obtain ⟨x, y⟩ := p
    intro arr j i u ha hf
    cases arr with
    | nil => simp at ha
    | cons e arr =>
      simp only [List.map_cons, List.cons.injEq, Prod.mk.injEq] at ha
      obtain ⟨⟨h1, h2⟩, h3⟩ := ha
      simp only [findIx] at hf
      split at hf
      · rename_i hk
        cases hf
        subst hk
        exact ⟨Nat.le_refl _, by simp [delKey, h3]⟩
      · rename_i hk
        obtain ⟨hle, h4⟩ := ih arr (j + 1) i u h3 hf
        refine ⟨by omega, ?_⟩
        rw [show i - j = (i - (j + 1)) + 1 by omega]
        simp [delKey, hk, h1, h2, h4]

theorem OL.mapUpdate {t kt el b : Nat} {x y u : Operand} {k : κ} {v : Value} {l : List (κ × Value)} (i : Nat) (hi : nth H i = some (mapc enc b l)) (ht : cx.P.underlying t = some (.map kt el)) (hK : KeyT cx.P kt enc)
    (hx : ev e x = some (.map (some b))) (hy : ev e y = some (enc k)) (hv : ev e u = some v) (h : Nx cx rx rest e (H.set i (mapc enc b (putKey k v l)))) :
    OL cx rx ((false, ⟨none, .mapUpdate t x y u, ty, pos, af, none⟩) :: rest) e H := by
  refine OL.skips (fun H' => H' = H.set i (mapc enc b (putKey k v l))) ?_ (by rintro H' rfl; exact h)
  intro a w he hs
  obtain ⟨k1, k2, dd, e1, e2, ⟨arr, clock, hb, hl, hbr, hck⟩, hk2⟩ := hs.take (nth_append hi cx.F)
  have hbw : w.heap[b]? = some (.map arr clock) := e1 _ _ hb
  have hblt : b < w.heap.size := (Array.getElem?_eq_some_iff.1 hbw).1
  have hf := hK.find k l arr.toList w hl
  have hpt : sl (pts b (.map arr clock) :: (H ++ cx.F).eraseIdx i) (hp w) := ⟨k1, k2, dd, e1, e2, hb, hk2⟩
  have e3 : (H ++ cx.F).set i (mapc enc b (putKey k v l)) = H.set i (mapc enc b (putKey k v l)) ++ cx.F := List.set_append_left _ _ (nth_lt hi)
  have hlen : i < (H ++ cx.F).length := by have := nth_lt hi; simp; omega
  have fin : ∀ (arr' : Array MapEntry) (clock' : Nat), arr'.toList.map (fun e => (e.key, e.val)) = (putKey k v l).map (fun p => (enc p.1, p.2)) → (arr'.toList.map (·.born)).Pairwise (· < ·) → (∀ e ∈ arr'.toList, e.born < clock') →
      sl (H.set i (mapc enc b (putKey k v l)) ++ cx.F) (hp { w with heap := w.heap.setIfInBounds b (.map arr' clock') }) := fun arr' clock' h1 h2 h3 => by
    rw [hp_setObj w b _ hblt, ← e3]
    exact sl.lay hlen ((sl_upd (o' := .map arr' clock') hpt).head_mono fun kk hk => ⟨arr', clock', hk, h1, h2, h3⟩)
  cases hfi : findIx k l 0 with
  | none =>
    have hn := findIx_none (v := v) hfi
    refine ⟨{ w with heap := w.heap.setIfInBounds b (.map (arr.push { key := enc k, val := v, born := clock }) (clock + 1)) }, .inl ?_, ⟨rfl, rfl, rfl, by simp⟩, _, rfl, fin _ _ ?_ ?_ ?_⟩
    · have hrun : (Instr.mapUpdate t (.map (some b)) (enc k) v).run cx.P w = .ok () { w with heap := w.heap.setIfInBounds b (.map (arr.push { key := enc k, val := v, born := clock }) (clock + 1)) } := by
        unfold Instr.mapUpdate
        simp only [Sem.run_bind, run_underlying ht, Result.andThen_ok, getObj, Sem.run, hbw, hK.check, hf, hfi, setObj]
      simp [execOp, ev_eval he hx, ev_eval he hy, ev_eval he hv, hrun]
    · rw [hn.1]; simp [hl]
    · simp only [Array.toList_push, List.map_append, List.map_cons, List.map_nil]
      rw [List.pairwise_append]
      refine ⟨hbr, by simp, fun x hx y hy => ?_⟩
      simp at hy; subst hy
      obtain ⟨q, hq, rfl⟩ := List.mem_map.1 hx
      exact hck q hq
    · intro q hq
      simp only [Array.toList_push, List.mem_append, List.mem_singleton] at hq
      rcases hq with hq | rfl
      · exact Nat.lt_succ_of_lt (hck q hq)
      · exact Nat.lt_succ_self _
  | some p =>
    obtain ⟨j, u'⟩ := p
    obtain ⟨hm, hkey⟩ := modify_put (v := v) l arr.toList j u' hl hfi
    have hkey' : ((arr[j]?).map (·.key)).getD (enc k) = enc k := by
      have : arr[j]? = arr.toList[j]? := by simp
      rw [this, hkey]; rfl
    refine ⟨{ w with heap := w.heap.setIfInBounds b (.map (arr.modify j fun e => { e with key := enc k, val := v }) clock) }, .inl ?_, ⟨rfl, rfl, rfl, by simp⟩, _, rfl, fin _ _ ?_ ?_ ?_⟩
    · have hrun : (Instr.mapUpdate t (.map (some b)) (enc k) v).run cx.P w = .ok () { w with heap := w.heap.setIfInBounds b (.map (arr.modify j fun e => { e with key := enc k, val := v }) clock) } := by
        unfold Instr.mapUpdate
        simp only [Sem.run_bind, run_underlying ht, Result.andThen_ok, getObj, Sem.run, hbw, hK.check, hf, hfi, setObj, hkey', Instr.keyThatStays, hK.bits, if_true, Sem.run_pure]
      simp [execOp, ev_eval he hx, ev_eval he hy, ev_eval he hv, hrun]
    · simpa using hm
    · have : (arr.modify j fun e => { e with key := enc k, val := v }).toList.map (·.born) = arr.toList.map (·.born) := by
        rw [Array.toList_modify]; exact born_modify _ _ _ (fun _ => rfl)
      rw [this]; exact hbr
    · intro q hq
      have : q.born ∈ (arr.modify j fun e => { e with key := enc k, val := v }).toList.map (·.born) := List.mem_map.2 ⟨q, hq, rfl⟩
      have h2 : (arr.modify j fun e => { e with key := enc k, val := v }).toList.map (·.born) = arr.toList.map (·.born) := by
        rw [Array.toList_modify]; exact born_modify _ _ _ (fun _ => rfl)
      rw [h2] at this
      obtain ⟨r, hr, hrb⟩ := List.mem_map.1 this
      rw [← hrb]; exact hck r hr

theorem OL.delete {t kt el b : Nat} {x y : Operand} {k : κ} {l : List (κ × Value)} {ats : List Nat} (i : Nat) (hi : nth H i = some (mapc enc b l)) (ht : cx.P.underlying t = some (.map kt el)) (hK : KeyT cx.P kt enc)
    (hx : ev e x = some (.map (some b))) (hy : ev e y = some (enc k)) (h : Nx cx rx rest e (H.set i (mapc enc b (delKey k l)))) :
    OL cx rx ((false, ⟨none, .call ⟨.builtin .delete, #[x, y], (t :: ats).toArray⟩, ty, pos, af, none⟩) :: rest) e H := by
  refine OL.skips (fun H' => H' = H.set i (mapc enc b (delKey k l))) ?_ (by rintro H' rfl; exact h)
  intro a w he hs
  obtain ⟨k1, k2, dd, e1, e2, ⟨arr, clock, hb, hl, hbr, hck⟩, hk2⟩ := hs.take (nth_append hi cx.F)
  have hbw : w.heap[b]? = some (.map arr clock) := e1 _ _ hb
  have hblt : b < w.heap.size := (Array.getElem?_eq_some_iff.1 hbw).1
  have hf := hK.find k l arr.toList w hl
  have hpt : sl (pts b (.map arr clock) :: (H ++ cx.F).eraseIdx i) (hp w) := ⟨k1, k2, dd, e1, e2, hb, hk2⟩
  have e3 : (H ++ cx.F).set i (mapc enc b (delKey k l)) = H.set i (mapc enc b (delKey k l)) ++ cx.F := List.set_append_left _ _ (nth_lt hi)
  have hlen : i < (H ++ cx.F).length := by have := nth_lt hi; simp; omega
  have fin : ∀ (arr' : Array MapEntry), arr'.toList.map (fun e => (e.key, e.val)) = (delKey k l).map (fun p => (enc p.1, p.2)) → arr'.toList.Sublist arr.toList →
      sl (H.set i (mapc enc b (delKey k l)) ++ cx.F) (hp { w with heap := w.heap.setIfInBounds b (.map arr' clock) }) := fun arr' h1 h2 => by
    rw [hp_setObj w b _ hblt, ← e3]
    exact sl.lay hlen ((sl_upd (o' := .map arr' clock) hpt).head_mono fun kk hk => ⟨arr', clock, hk, h1, hbr.sublist (h2.map _), fun q hq => hck q (h2.subset hq)⟩)
  cases hfi : findIx k l 0 with
  | none =>
    have hn := findIx_none (v := .nilFunc) hfi
    refine ⟨{ w with heap := w.heap.setIfInBounds b (.map arr clock) }, .inr ⟨.tuple #[], ?_⟩, ⟨rfl, rfl, rfl, by simp⟩, _, rfl, fin _ (by rw [hn.2]; exact hl) (List.Sublist.refl _)⟩
    have hrun : (Builtin.delete_ (t :: ats).toArray ty #[.map (some b), enc k]).run cx.P w = .ok (.tuple #[]) { w with heap := w.heap.setIfInBounds b (.map arr clock) } := by
      unfold Builtin.delete_
      simp [run_underlying ht, getObj, Sem.run, hbw, hK.check, hf, hfi, setObj]
    simp [execOp, resolve, ev_eval he hx, ev_eval he hy, invoke, builtin, hrun]
  | some p =>
    obtain ⟨j, u'⟩ := p
    obtain ⟨_, hm⟩ := erase_del l arr.toList 0 j u' hl hfi
    refine ⟨{ w with heap := w.heap.setIfInBounds b (.map (arr.eraseIdxIfInBounds j) clock) }, .inr ⟨.tuple #[], ?_⟩, ⟨rfl, rfl, rfl, by simp⟩, _, rfl, fin _ (by simpa using hm) (by simpa using List.eraseIdx_sublist _ _)⟩
    have hrun : (Builtin.delete_ (t :: ats).toArray ty #[.map (some b), enc k]).run cx.P w = .ok (.tuple #[]) { w with heap := w.heap.setIfInBounds b (.map (arr.eraseIdxIfInBounds j) clock) } := by
      unfold Builtin.delete_
      simp [run_underlying ht, getObj, Sem.run, hbw, hK.check, hf, hfi, setObj]
    simp [execOp, resolve, ev_eval he hx, ev_eval he hy, invoke, builtin, hrun]
end
end Go.Sx
