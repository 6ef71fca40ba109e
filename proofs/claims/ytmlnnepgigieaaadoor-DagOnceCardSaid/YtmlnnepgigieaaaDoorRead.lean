/- From the form's readings to the engine's chunks, and back. No program here. -/
import Derived.Test.YtmlnnepgigieaaaDoorMem
import Derived.ProofKit
import Derived.Deep.Slices
import Derived.Below
import Derived.Carry
namespace Go.Sx
open Go.Deep Go.RowKit

/-- All that stood when the call began stands as it stood. -/
def old (W : World) : HP := fun h => le (hp W) h
theorem old_sl (W : World) : sl ([] ++ [old W]) (hp W) :=
  ⟨hp W, fun _ => none, fun _ => .inr rfl, le.refl _, no_le _, le.refl _, trivial⟩
theorem old_ent {W : World} {R : HP} (hu : Up R) (h : R (hp W)) : Ent [old W] R := fun _ hs => by
  obtain ⟨k, _, _, e1, _, hk, _⟩ := hs
  exact hu _ _ (le.trans hk e1) h
theorem old_below {W W' : World} (hs : St W W') (h : sl ([] ++ [old W]) (hp W')) : Below W.heap.size W W' := by
  have h1 : le (hp W) (hp W') := by
    obtain ⟨k, _, _, e1, _, hk, _⟩ := h
    exact le.trans hk e1
  refine ⟨hs.os, hs.tape, hs.output, hs.size, fun b hb => ?_⟩
  have := h1 b W.heap[b] (by simp [hp, hb])
  rw [Array.getElem?_eq_getElem hb]
  exact this

/-- A list whose every element is of this form is a list of the things that they are forms of. -/
theorem lift_list {α β : Type _} {p : α → Prop} {f : α → β} : ∀ {l : List β}, (∀ x ∈ l, ∃ v, p v ∧ x = f v) → ∃ vs : List α, l = vs.map f ∧ ∀ v ∈ vs, p v
  | [], _ => ⟨[], rfl, fun _ h => nomatch h⟩
  | x :: l, h => by
    obtain ⟨v, hv, rfl⟩ := h x (by simp)
    obtain ⟨vs, rfl, hp'⟩ := lift_list (l := l) fun y hy => h y (by simp [hy])
    exact ⟨v :: vs, rfl, fun u hu => by
      rcases List.mem_cons.1 hu with rfl | hu
      · exact hv
      · exact hp' u hu⟩

section
variable {H : Type} {enc : TypeId × Value → H} {P : Program} {w : World} {base : Nat} {spare : Nat → Bool} {held : Bool} {fuel : Nat} {t : TypeId} {cs : List Value} {x : DataW H × List MemPlace}

theorem cell_is {a : Addr} {v : Value} (h : w.cell? a = some v) : a.spot = none ∧ cellIs a.block a.off v (hp w) := by
  unfold World.cell? at h
  split at h
  · rename_i c t z hb
    split at h
    · cases h
    · rename_i hs
      exact ⟨by simpa using hs, c, t, z, hb, h⟩
  · cases h
theorem add_parts (a : Addr) (k : Nat) (h : a.spot = none) : a.add k = ⟨a.block, a.off + k, none⟩ := by
  obtain ⟨b, o, s⟩ := a
  simp at h; subst h
  simp [Addr.add]

/-- A SLICE, OPENED: it reads as rows of cells, each of which reads at the element's type. -/
theorem open_rows {e : TypeId} {sz : Nat} (ht : P.underlying t = some (.slice e)) (hc : P.cellsOf e = sz) (hz : 0 < sz) (h : DataW.trod enc P w base spare held fuel t cs = some x) :
    ∃ a n c xss m, cs = [.slice a n c] ∧ n ≤ c ∧ c ≤ maxLen ∧ xss.length = n ∧ rd a n sz xss (hp w) ∧ ∀ xs ∈ xss, xs.length = sz ∧ ∃ y, DataW.trod enc P w base spare held m e xs = some y := by
  rcases open_slice ht h with ⟨rfl, _⟩ | ⟨a, len, cap, m, n, D, Pl, rfl, _, hl, hm, hmm, _, hx⟩
  · exact ⟨none, 0, 0, [], 0, rfl, Nat.le_refl _, by decide, rfl, rd_nil _ _ _, fun _ h => nomatch h⟩
  have hle : len ≤ m := by rw [hmm]; split <;> omega
  rw [hc] at hx
  obtain ⟨X, hX⟩ := choose_lt (α := List Value) (n := len) (p := fun i cs' => w.cells? base (a.add (i * sz)) sz = some cs' ∧ DataW.trod enc P w base spare held n e cs' = some (D i, Pl i)) (fun i hi => hx i (by omega))
  have hcell : ∀ i, i < len → ∀ j v, (X i)[j]? = some v → a.spot = none ∧ cellIs a.block (a.off + i * sz + j) v (hp w) := by
    have h0 : 0 < len → a.spot = none := fun hp0 => by
      obtain ⟨_, h2, h3⟩ := World.cells?_some (hX 0 hp0).1
      have h4 := h3 0 hz
      rw [Nat.zero_mul] at h4
      rw [List.getElem?_eq_getElem (by omega)] at h4
      have := (cell_is h4).1
      simpa [Addr.add] using this
    intro i hi j v hj
    have hs := h0 (by omega)
    obtain ⟨_, h2, h3⟩ := World.cells?_some (hX i hi).1
    have hjl : j < sz := by have := (List.getElem?_eq_some_iff.1 hj).1; omega
    have h4 := h3 j hjl
    rw [hj, add_add, add_parts a _ hs] at h4
    have := (cell_is h4).2
    exact ⟨hs, by rw [Nat.add_assoc]; exact this⟩
  have hlen : ∀ i, i < len → (X i).length = sz := fun i hi => (World.cells?_some (hX i hi).1).2.1
  refine ⟨some a, len, cap, (List.range len).map X, n, rfl, hl, hm, by simp, ⟨by simp, ?_, ?_, ?_⟩, ?_⟩
  · intro y hy
    obtain ⟨i, hi, rfl⟩ := List.mem_map.1 hy
    exact hlen i (List.mem_range.1 hi)
  · intro hp0
    have h1 := hlen 0 hp0
    have h2 := (hcell 0 hp0 0 ((X 0)[0]'(by omega)) (List.getElem?_eq_getElem _)).1
    obtain ⟨b, o, s⟩ := a
    simp at h2; subst h2; rfl
  · intro k xs hk
    obtain ⟨hkl, hk2⟩ := List.getElem?_eq_some_iff.1 hk
    simp at hkl hk2
    subst hk2
    intro j v hj
    exact (hcell k hkl j v hj).2
  · intro y hy
    obtain ⟨i, hi, rfl⟩ := List.mem_map.1 hy
    exact ⟨hlen i (List.mem_range.1 hi), _, (hX i (List.mem_range.1 hi)).2⟩

/-- A STRUCT's field, opened. -/
theorem open_fld {fs : Array Field} {f : Field} (ht : P.underlying t = some (.struct fs)) (i : Nat) (hi : fs[i]? = some f) (h : DataW.trod enc P w base spare held fuel t cs = some x) :
    ∃ m y, DataW.trod enc P w base spare held m f.type ((cs.drop f.offset).take (P.cellsOf f.type)) = some y := by
  obtain ⟨xs, n, _, _, _, hl, hf⟩ := DataW.trod_struct ht h
  have h1 := hf i f hi
  have hlt : i < xs.length := by rw [hl]; exact (Array.getElem?_eq_some_iff.1 hi).1
  rw [List.getElem?_eq_getElem hlt] at h1
  exact ⟨n, _, h1⟩
end
end Go.Sx
