/- A range over a map that the round does not write: in whatever order. No program here. -/
import Derived.Test.YtmlnnepgigieaaaDoorMore
import Derived.Maps.RangeRun
namespace Go.Sx
section
variable {κ : Type}
/-- A map that is ranged over, k of its entries at most to come; the one that came last. -/
def iterc (enc : κ → Value) (b r : Nat) (l : List (κ × Value)) (k : Nat) (last : Option (κ × Value)) : HP := fun h =>
  ∃ (arr : Array MapEntry) (clock : Nat) (seen : Array Nat), h b = some (.map arr clock) ∧ arr.toList.map (fun e => (e.key, e.val)) = l.map (fun p => (enc p.1, p.2)) ∧
    (arr.toList.map (·.born)).Pairwise (· < ·) ∧ (∀ e ∈ arr.toList, e.born < clock) ∧ h r = some (.mapIter (some b) clock seen clock) ∧ (leftOf arr seen).size ≤ k ∧
    ∀ p, last = some p → ∃ (seen' : Array Nat) (e : MapEntry), seen = seen'.push e.born ∧ e ∈ arr.toList ∧ e.key = enc p.1 ∧ e.val = p.2
theorem iter_map {enc : κ → Value} {b r : Nat} {l : List (κ × Value)} {k : Nat} {last : Option (κ × Value)} : ∀ h, iterc enc b r l k last h → mapc enc b l h := fun _ ⟨arr, clock, _, h1, h2, h3, h4, _⟩ => ⟨arr, clock, h1, h2, h3, h4⟩
theorem left_none (arr : Array MapEntry) : leftOf arr #[] = arr := by
  unfold leftOf
  exact Array.filter_eq_self.2 fun x _ => by simp
/-- A chunk's part of the heap, turned at one block that no other chunk has. -/
theorem sl_turn {F H : List HP} {i b : Nat} {o : Obj} {p q : HP} {h : PH} (hi : nth H i = some p) (hs : sl (H ++ F) h) (hb : ∀ k, le k h → p k → h b = none ∨ ∃ x, k b = some x) (hq : ∀ k, le k h → p k → q (upd k b o)) : sl (H.set i q ++ F) (upd h b o) := by
  obtain ⟨h1, h2, d, e1, e2, k1, k2⟩ := hs.take (nth_append hi F)
  have n2 : h2 b = none := by
    rcases hb h1 e1 k1 with hn | ⟨x, hx⟩
    · cases hc : h2 b with
      | none => rfl
      | some x => rw [e2 _ _ hc] at hn; cases hn
    · rcases d b with hd | hd
      · rw [hx] at hd; cases hd
      · exact hd
  have h3 : sl (q :: (H ++ F).eraseIdx i) (upd h b o) := by
    refine ⟨upd h1 b o, h2, fun x => ?_, fun x y hxy => ?_, fun x y hxy => ?_, hq h1 e1 k1, k2⟩
    · by_cases hx : x = b
      · subst hx; exact .inr n2
      · rcases d x with hd | hd
        · left; simp [upd, hx, hd]
        · exact .inr hd
    · by_cases hx : x = b
      · subst hx; simpa [upd] using hxy
      · simp only [upd, if_neg hx] at hxy ⊢
        exact e1 _ _ hxy
    · have hx : x ≠ b := fun e => by subst e; rw [n2] at hxy; cases hxy
      simp only [upd, if_neg hx]
      exact e2 _ _ hxy
  have e3 : (H ++ F).set i q = H.set i q ++ F := List.set_append_left _ _ (nth_lt hi)
  rw [← e3]
  exact sl.lay (by have := nth_lt hi; simp; omega) h3
end
section
variable {cx : Cx} {rx : Rx} {rest : List (Bool × Oper)} {e : Env} {H HH : List HP} {ty : TypeId} {pos : String} {af : Array Edge} {P : Program} {g : Option (Nat × Bool)}
variable {κ : Type} {enc : κ → Value}
/-- range m -/
theorem OL.range {t kt el b d : Nat} {x : Operand} {l : List (κ × Value)} (i : Nat) (hi : nth H i = some (mapc enc b l)) (ht : cx.P.underlying t = some (.map kt el)) (hx : ev e x = some (.map (some b))) (hd : Nat.blt d cx.N = true)
    (h : ∀ r, Nx cx rx rest ((d, .pointer (some ⟨r, 0, none⟩)) :: e) (H.set i (iterc enc b r l l.length none))) : OL cx rx ((false, ⟨some d, .range t x, ty, pos, af, none⟩) :: rest) e H := by
  refine OL.does (fun v H' => ∃ r, v = .pointer (some ⟨r, 0, none⟩) ∧ H' = H.set i (iterc enc b r l l.length none)) hd ?_ ?_
  · intro a w he hs
    obtain ⟨_, _, _, e1, _, ⟨arr, clock, hb, hl, _⟩, _⟩ := hs.take (nth_append hi cx.F)
    have hbw : w.heap[b]? = some (.map arr clock) := e1 _ _ hb
    have hrun := run_range_map (P := cx.P) w t kt el b arr clock ht hbw
    refine ⟨.pointer (some ⟨w.heap.size, 0, none⟩), w.alloc (.mapIter (some b) clock #[] clock), ?_, St.alloc w _, _, ⟨w.heap.size, rfl, rfl⟩, ?_⟩
    · simp [execOp, ev_eval he hx, hrun]
    · rw [show hp (w.alloc (.mapIter (some b) clock #[] clock)) = upd (hp w) w.heap.size (.mapIter (some b) clock #[] clock) from hp_alloc w _]
      refine sl_turn hi hs (fun _ _ _ => .inl (hp_top w)) ?_
      intro k hk ⟨arr', clock', hb', hl', hpw, hbc⟩
      have hne : b ≠ w.heap.size := fun e => by
        have h9 := hk _ _ hb'
        rw [e, hp_top] at h9; cases h9
      have h9 : w.heap[b]? = some (.map arr' clock') := hk _ _ hb'
      rw [hbw] at h9
      cases h9
      refine ⟨arr, clock, #[], by simp [upd, hne, hb'], hl', hpw, hbc, by simp [upd], ?_, fun _ h => nomatch h⟩
      rw [left_none, ← Array.length_toList]
      have := congrArg List.length hl'
      rw [List.length_map, List.length_map] at this
      exact Nat.le_of_eq this
  · rintro v H' ⟨r, rfl, rfl⟩; exact h r
/-- The next entry, whichever; or none. -/
theorem OL.next {b r k d : Nat} {x : Operand} {l : List (κ × Value)} {last : Option (κ × Value)} (i : Nat) (hi : nth H i = some (iterc enc b r l k last)) (hx : ev e x = some (.pointer (some ⟨r, 0, none⟩))) (hd : Nat.blt d cx.N = true)
    (h0 : Nx cx rx rest ((d, .tuple #[.bool false]) :: e) H) (h1 : ∀ p ∈ l, ∀ k', k' < k → Nx cx rx rest ((d, .tuple #[.bool true, enc p.1, p.2]) :: e) (H.set i (iterc enc b r l k' (some p)))) : OL cx rx ((false, ⟨some d, .next x false, ty, pos, af, none⟩) :: rest) e H := by
  refine OL.does (fun v H' => (v = .tuple #[.bool false] ∧ H' = H) ∨ ∃ p ∈ l, ∃ k', k' < k ∧ v = .tuple #[.bool true, enc p.1, p.2] ∧ H' = H.set i (iterc enc b r l k' (some p))) hd ?_ ?_
  · intro a w he hs
    obtain ⟨g1, _, _, e1, _, ⟨arr, clock, seen, hb, hl, hpw, hbc, hr, hle, _⟩, _⟩ := hs.take (nth_append hi cx.F)
    have hbw : w.heap[b]? = some (.map arr clock) := e1 _ _ hb
    have hrw : w.heap[r]? = some (.mapIter (some b) clock seen clock) := e1 _ _ hr
    rcases run_next_at (P := cx.P) w ty r b clock clock seen arr clock hrw hbw hbc (Nat.le_refl _) with ⟨_, hrun⟩ | ⟨en, hen, w1, hw1, hrun⟩
    · exact ⟨.tuple #[.bool false], w, by simp [execOp, ev_eval he hx, hrun], St.refl w, H, .inl ⟨rfl, rfl⟩, hs⟩
    · have hmem := (mem_left hen).1
      obtain ⟨j, hj, hje⟩ := List.getElem_of_mem hmem
      have hlen : arr.toList.length = l.length := by simpa using congrArg List.length hl
      have hjl : j < l.length := by omega
      have hkv : (en.key, en.val) = (enc l[j].1, l[j].2) := by
        have h9 : (arr.toList.map (fun e => (e.key, e.val)))[j]? = (l.map (fun p => (enc p.1, p.2)))[j]? := by rw [hl]
        rw [List.getElem?_map, List.getElem?_map, List.getElem?_eq_getElem hj, List.getElem?_eq_getElem hjl, hje] at h9
        exact Option.some.inj h9
      simp only [Prod.mk.injEq] at hkv
      have hrl : r < w.heap.size := (Array.getElem?_eq_some_iff.1 hrw).1
      have hsh := left_shrinks arr seen en hen
      have hhp : hp (ChangeMaps.setBlock w1 r (.mapIter (some b) clock (seen.push en.born) clock)) = upd (hp w) r (.mapIter (some b) clock (seen.push en.born) clock) := by
        rcases hw1 with rfl | rfl
        · exact hp_setObj _ _ _ hrl
        · exact hp_setObj _ _ _ hrl
      refine ⟨.tuple #[.bool true, en.key, en.val], ChangeMaps.setBlock w1 r (.mapIter (some b) clock (seen.push en.born) clock), by simp [execOp, ev_eval he hx, hrun], ?_, _, .inr ⟨l[j], List.getElem_mem hjl, (leftOf arr (seen.push en.born)).size, by omega, by rw [hkv.1, hkv.2], rfl⟩, ?_⟩
      · rcases hw1 with rfl | rfl
        · exact ⟨rfl, rfl, rfl, by simp [ChangeMaps.setBlock]⟩
        · exact ⟨rfl, rfl, rfl, by simp [ChangeMaps.setBlock]⟩
      · rw [hhp]
        refine sl_turn hi hs (fun k hk hp' => ?_) ?_
        · obtain ⟨_, _, _, _, _, _, _, hr', _⟩ := hp'
          exact .inr ⟨_, hr'⟩
        · intro k hk ⟨arr', clock', seen', hb', hl', hpw', hbc', hr', hle', _⟩
          have h9 : w.heap[b]? = some (.map arr' clock') := hk _ _ hb'
          rw [hbw] at h9
          cases h9
          have hne : b ≠ r := fun e => by rw [e, hrw] at hbw; cases hbw
          exact ⟨arr, clock, seen.push en.born, by simp [upd, hne, hb'], hl', hpw', hbc', by simp [upd], Nat.le_refl _, fun p hp9 => by
            cases hp9
            exact ⟨seen, en, rfl, hmem, hkv.1, hkv.2⟩⟩
  · rintro v H' (⟨rfl, rfl⟩ | ⟨p, hp', k', hk', rfl, rfl⟩)
    · exact h0
    · exact h1 p hp' k' hk'
/-- The entry that came last. -/
theorem Y.entry {b r k : Nat} {d : Option Nat} {x : Operand} {l : List (κ × Value)} {p : κ × Value} (i : Nat) (hi : nth HH i = some (iterc enc b r l k (some p))) (hx : ev e x = some (.pointer (some ⟨r, 0, none⟩))) : Yv P HH e ⟨d, .entry x, ty, pos, af, g⟩ (.tuple #[enc p.1, p.2]) := fun a w he hs => by
  obtain ⟨_, _, _, e1, _, ⟨arr, clock, seen, hb, _, hpw, _, hr, _, hlast⟩, _⟩ := hs.take hi
  obtain ⟨seen', en, rfl, hmem, hk, hv⟩ := hlast p rfl
  have hbw : w.heap[b]? = some (.map arr clock) := e1 _ _ hb
  have hrw : w.heap[r]? = some (.mapIter (some b) clock (seen'.push en.born) clock) := e1 _ _ hr
  have hrun := run_entry_at (P := P) w r b clock seen' arr clock en hrw hbw hmem (hpw.imp (fun h => Nat.ne_of_lt h))
  simp [execOp, ev_eval he hx, hrun, hk, hv]
end
end Go.Sx
