/- Slices of slices; a slice made shorter; clear. No program here. -/
import Derived.Test.YtmlnnepgigieaaaDoorMaps
namespace Go.Sx

/-- Where x[k:] begins. -/
def subA (a : Option Addr) (c k sz : Nat) : Option Addr := if c = k then a else a.map (·.add (k * sz))

theorem rd_sub {a : Option Addr} {n c k sz : Nat} {xss : List (List Value)} (hc : n ≤ c) (hk : k ≤ n) : ∀ h, rd a n sz xss h → rd (subA a c k sz) (n - k) sz (xss.drop k) h := by
  rintro h ⟨h1, h2, h3, h4⟩
  refine ⟨by simp [h1], fun x hx => h2 x (List.drop_subset _ _ hx), fun hn => ?_, fun j xs hj => ?_⟩
  · have ha := h3 (by omega)
    have hne : c ≠ k := by omega
    rw [ha]
    simp [subA, hne, ab, ao, Addr.add_lit]
  · have hjn : j < n - k := by
      have := (List.getElem?_eq_some_iff.1 hj).1
      simp [h1] at this
      exact this
    have ha := h3 (by omega)
    have hne : c ≠ k := by omega
    rw [List.getElem?_drop] at hj
    have := h4 (k + j) xs hj
    have e1 : ab (subA a c k sz) = ab a := by rw [ha]; simp [subA, hne, ab, Addr.add_lit]
    have e2 : ao (subA a c k sz) = ao a + k * sz := by rw [ha]; simp [subA, hne, ao, Addr.add_lit]
    rw [e1, e2, Nat.add_assoc, ← Nat.add_mul]
    exact this
theorem rd_take {a : Option Addr} {n k sz : Nat} {xss : List (List Value)} (hk : k ≤ n) : ∀ h, rd a n sz xss h → rd a k sz (xss.take k) h := by
  rintro h ⟨h1, h2, h3, h4⟩
  refine ⟨by simp [h1, hk], fun x hx => h2 x (List.take_subset _ _ hx), fun hn => h3 (by omega), fun j xs hj => ?_⟩
  rw [List.getElem?_take] at hj
  split at hj
  · exact h4 j xs hj
  · cases hj
theorem row_take {a : Option Addr} {n c e k sz : Nat} {xss : List (List Value)} (hk : k ≤ n) : ∀ h, row a n c e sz xss h → row a k c e sz (xss.take k) h := by
  rintro h ⟨h1, h2, h3⟩
  refine ⟨by simp [h1, hk], fun x hx => h2 x (List.take_subset _ _ hx), ?_⟩
  rcases h3 with ⟨rfl, rfl, rfl⟩ | ⟨g, cur, rfl, hg, hn, hc, hcs, ht⟩
  · exact .inl ⟨rfl, by omega, rfl⟩
  · refine .inr ⟨g, cur, rfl, hg, by omega, hc, hcs, ?_⟩
    have hk2 : k * sz ≤ n * sz := Nat.mul_le_mul_right _ hk
    have e1 : cur.toList.take (k * sz) = (cur.toList.take (n * sz)).take (k * sz) := by rw [List.take_take, Nat.min_eq_left hk2]
    rw [e1, ht]
    have hl : (xss.take k).flatten.length = k * sz := by
      rw [flatten_length _ sz (fun x hx => h2 x (List.take_subset _ _ hx)), List.length_take, h1, Nat.min_eq_left hk]
    have e2 : xss.flatten = (xss.take k).flatten ++ (xss.drop k).flatten := by rw [← List.flatten_append, List.take_append_drop]
    rw [e2, ← hl, List.take_left]
theorem row_cap {a : Option Addr} {n c e sz : Nat} {xss : List (List Value)} {h : PH} (hr : row a n c e sz xss h) : n ≤ c := by
  rcases hr.2.2 with ⟨_, rfl, _⟩ | ⟨_, _, _, _, hn, _⟩
  · exact Nat.zero_le _
  · exact hn

theorem Ent.sub {HH : List HP} {a : Option Addr} {n c k sz : Nat} {xss : List (List Value)} (hr : Ent HH (rd a n sz xss)) (hc : n ≤ c) (hk : k ≤ n) : Ent HH (rd (subA a c k sz) (n - k) sz (xss.drop k)) := fun h hs => rd_sub hc hk h (hr h hs)
theorem Ent.rdTake {HH : List HP} {a : Option Addr} {n k sz : Nat} {xss : List (List Value)} (hr : Ent HH (rd a n sz xss)) (hk : k ≤ n) : Ent HH (rd a k sz (xss.take k)) := fun h hs => rd_take hk h (hr h hs)
/-- A nil slice, to be appended to. -/
theorem CW.nilRow {cx : Cx} {Q : Exit → Act → World → Prop} {e : Env} {H : List HP} {c : Code} (el sz : Nat) (h : CW cx c Q e (H ++ [row none 0 0 el sz []])) : CW cx c Q e H := fun a w hs => by
  refine h a w (hs.heapMono ?_)
  have := sl_row_nil el sz hs.heap
  exact this.perm (by simpa using List.perm_middle.symm)
theorem EX.nilRow {cx : Cx} {Q : Exit → Act → World → Prop} {e : Env} {H : List HP} {x : Exit} (el sz : Nat) (h : EX cx x Q e (H ++ [row none 0 0 el sz []])) : EX cx x Q e H := fun a w hs => by
  refine h a w (hs.heapMono ?_)
  have := sl_row_nil el sz hs.heap
  exact this.perm (by simpa using List.perm_middle.symm)

section
variable {P : Program} {HH : List HP} {e : Env} {d : Option Nat} {ty : TypeId} {pos : String} {af : Array Edge} {g : Option (Nat × Bool)}

theorem run_sliceAt_sl {t el : TypeId} (ht : P.underlying t = some (.slice el)) (x : Value) (lo hi mx : Option Value) (w : World) : (Instr.sliceAt t x lo hi mx).run P w = (Instr.slice t x lo hi mx).run P w := by
  unfold Instr.sliceAt
  simp [run_underlying ht]
/-- x[k:] -/
theorem Y.sliceLo {t el n c k sz : Nat} {a : Option Addr} {x l : Operand} {ik : IntKind} {i : Int} {zs : List Value} (ht : P.underlying t = some (.slice el)) (hz : TyC P el sz zs) (hx : ev e x = some (.slice a n c)) (hl : ev e l = some (.int ik i)) (hi : i = k) (hk : k ≤ n) :
    Yv P HH e ⟨d, .slice t x (some l) none none, ty, pos, af, g⟩ (.slice (subA a c k sz) (n - k) (c - k)) := fun av w he _ => by
  subst hi
  simp [execOp, ev_eval he hx, ev_eval he hl, run_sliceAt_sl ht, Instr.slice, run_underlying ht, Instr.sliceBounds, Instr.sliceBound, asIntOf, hk, hz.size, subA]
/-- x[:k] -/
theorem Y.sliceHi {t el n c k sz : Nat} {a : Option Addr} {x l : Operand} {ik : IntKind} {i : Int} {zs : List Value} (ht : P.underlying t = some (.slice el)) (hz : TyC P el sz zs) (hx : ev e x = some (.slice a n c)) (hl : ev e l = some (.int ik i)) (hi : i = k) (hk : k ≤ c) :
    Yv P HH e ⟨d, .slice t x none (some l) none, ty, pos, af, g⟩ (.slice a k c) := fun av w he _ => by
  subst hi
  have h1 : a.map (fun x => x.add (0 * sz)) = a := by cases a <;> simp [Addr.add]
  simp [execOp, ev_eval he hx, ev_eval he hl, run_sliceAt_sl ht, Instr.slice, run_underlying ht, Instr.sliceBounds, Instr.sliceBound, asIntOf, hk, hz.size]
  intro _
  simpa using h1
/-- s[k:], s a string -/
theorem Y.strLo {t k : Nat} {s : ByteArray} {x l : Operand} {ik : IntKind} {i : Int} (ht : P.underlying t = some .string) (hx : ev e x = some (.string s)) (hl : ev e l = some (.int ik i)) (hi : i = k) (hk : k ≤ s.size) :
    Yv P HH e ⟨d, .slice t x (some l) none none, ty, pos, af, g⟩ (.string (s.extract k s.size)) := fun av w he _ => by
  subst hi
  simp [execOp, ev_eval he hx, ev_eval he hl, Instr.sliceAt, Instr.slice, run_underlying ht, Instr.sliceBounds, Instr.sliceBound, asIntOf, hk]
theorem Y.strHi {t k : Nat} {s : ByteArray} {x l : Operand} {ik : IntKind} {i : Int} (ht : P.underlying t = some .string) (hx : ev e x = some (.string s)) (hl : ev e l = some (.int ik i)) (hi : i = k) (hk : k ≤ s.size) :
    Yv P HH e ⟨d, .slice t x none (some l) none, ty, pos, af, g⟩ (.string (s.extract 0 k)) := fun av w he _ => by
  subst hi
  simp [execOp, ev_eval he hx, ev_eval he hl, Instr.sliceAt, Instr.slice, run_underlying ht, Instr.sliceBounds, Instr.sliceBound, asIntOf, hk]
end

section
variable {cx : Cx} {rx : Rx} {rest : List (Bool × Oper)} {e : Env} {H : List HP} {ty : TypeId} {pos : String} {af : Array Edge}

theorem zeros_rows (zs : List Value) (n : Nat) : (Builtin.zeroCells zs.toArray n).toList = (List.replicate n zs).flatten := by
  have := range_rows zs n
  have h2 : Builtin.zeroCells zs.toArray n = (Array.range (n * zs.length)).map (zs.toArray[· % zs.length]!) := by simp [Builtin.zeroCells]
  rw [h2, this]

/-- clear(x[k:]), x a slice of the call's own -/
theorem OL.clear {t el n c k sz : Nat} {a : Option Addr} {x : Operand} {zs : List Value} {xss : List (List Value)} {ats : List Nat} (i : Nat) (hi : nth H i = some (row a n c el sz xss)) (ht : cx.P.underlying t = some (.slice el)) (hz : TyC cx.P el sz zs) (h1 : oneAll zs = true)
    (hx : ev e x = some (.slice (subA a c k sz) (n - k) (c - k))) (hk : k ≤ n) (h : Nx cx rx rest e (H.set i (row a n c el sz (xss.take k ++ List.replicate (n - k) zs)))) :
    OL cx rx ((false, ⟨none, .call ⟨.builtin .clear, #[x], (t :: ats).toArray⟩, ty, pos, af, none⟩) :: rest) e H := by
  refine OL.skips (fun H' => H' = H.set i (row a n c el sz (xss.take k ++ List.replicate (n - k) zs))) ?_ (by rintro H' rfl; exact h)
  intro av w he hs
  obtain ⟨k1, k2, dd, f1, f2, hrow, hk2⟩ := hs.take (nth_append hi cx.F)
  have hcap := row_cap hrow
  have e3 : (H ++ cx.F).set i (row a n c el sz (xss.take k ++ List.replicate (n - k) zs)) = H.set i (row a n c el sz (xss.take k ++ List.replicate (n - k) zs)) ++ cx.F := List.set_append_left _ _ (nth_lt hi)
  have hil : i < (H ++ cx.F).length := by have := nth_lt hi; simp; omega
  obtain ⟨hxl, hxs, hcase⟩ := hrow
  by_cases hnk : n = k
  · subst hnk
    have e4 : xss.take n ++ List.replicate (n - n) zs = xss := by rw [← hxl]; simp
    refine ⟨w, .inr ⟨.tuple #[], ?_⟩, St.refl w, _, rfl, ?_⟩
    · have hrun : ∀ aa, (Builtin.clear_ (t :: ats).toArray ty #[.slice aa 0 (c - n)]).run cx.P w = .ok (.tuple #[]) w := fun aa => by
        cases aa <;> simp [Builtin.clear_, run_underlying ht]
      simp only [Nat.sub_self] at hx
      simp [execOp, resolve, ev_eval he hx, invoke, builtin, hrun]
    · rw [← e3, e4]
      exact sl.lay hil ⟨k1, k2, dd, f1, f2, ⟨hxl, hxs, hcase⟩, hk2⟩
  · rcases hcase with ⟨_, rfl, _⟩ | ⟨gg, cur, rfl, hg, hn, hc, hcs, htk⟩
    · omega
    · have hgw : w.heap[gg]? = some (.cells cur el (0, 0)) := f1 _ _ hg
      have hne : c ≠ k := by omega
      obtain ⟨z, hz1, hz2⟩ := hz.zero
      have hrl : (List.replicate (n - k) zs).flatten.length = (n - k) * sz := by
        rw [flatten_length _ sz (fun x hx => by rw [List.eq_of_mem_replicate hx]; exact hz.len), List.length_replicate]
      have hfit : k * sz + (n - k) * sz = n * sz := by rw [← Nat.add_mul]; congr 1; omega
      have hnc : n * sz ≤ c * sz := Nat.mul_le_mul_right _ hn
      have hone : ∀ v ∈ (List.replicate (n - k) zs).flatten, v.oneCell' = true := fun v hv => by
        obtain ⟨r, hr1, hr2⟩ := List.mem_flatten.1 hv
        rw [List.eq_of_mem_replicate hr1] at hr2
        exact oneAll_mem h1 v hr2
      have hst := run_storeCells_at cx.P gg (k * sz) el (List.replicate (n - k) zs).flatten 0 cur w hgw (by rw [hrl]; simp; omega) hone
      simp only [Nat.add_zero] at hst
      have hrun : (Builtin.clear_ (t :: ats).toArray ty #[.slice (subA (some ⟨gg, 0, none⟩) c k sz) (n - k) (c - k)]).run cx.P w = .ok (.tuple #[]) (w.setRow gg (cur.toList.take (k * sz) ++ (List.replicate (n - k) zs).flatten ++ cur.toList.drop (k * sz + (List.replicate (n - k) zs).flatten.length)).toArray) := by
        obtain ⟨q, hq⟩ : ∃ q, n - k = q + 1 := ⟨n - k - 1, by omega⟩
        have hsub : subA (some ⟨gg, 0, none⟩) c k sz = some ⟨gg, k * sz, none⟩ := by simp [subA, hne, Addr.add_lit]
        rw [hsub]
        rw [hq] at hst ⊢
        simp [Builtin.clear_, run_underlying ht, hz1, hz2, zeros_rows, hst]
      have hex : ∀ W', (Builtin.clear_ (t :: ats).toArray ty #[.slice (subA (some ⟨gg, 0, none⟩) c k sz) (n - k) (c - k)]).run cx.P w = .ok (.tuple #[]) W' →
          (execOp av.eval ⟨none, .call ⟨.builtin .clear, #[x], (t :: ats).toArray⟩, ty, pos, af, none⟩).run cx.P w = .ok (.value (.tuple #[])) W' := fun W' hW => by
        simp [execOp, resolve, ev_eval he hx, invoke, builtin, hW]
      refine ⟨_, .inr ⟨.tuple #[], hex _ hrun⟩, ⟨rfl, rfl, rfl, by simp [World.setRow]⟩, _, rfl, ?_⟩
      rw [hp_setRow (t := el) (z := (0, 0)) hgw, ← e3]
      have hpt : sl (pts gg (.cells cur el (0, 0)) :: (H ++ cx.F).eraseIdx i) (hp w) := ⟨k1, k2, dd, f1, f2, hg, hk2⟩
      refine sl.lay hil ((sl_upd hpt).head_mono fun kk hkk => ⟨by simp; omega, fun x hx => ?_, .inr ⟨gg, _, rfl, hkk, hn, hc, ?_, ?_⟩⟩)
      · rcases List.mem_append.1 hx with hx | hx
        · exact hxs x (List.take_subset _ _ hx)
        · rw [List.eq_of_mem_replicate hx]; exact hz.len
      · simp only [List.size_toArray, List.length_append, List.length_take, List.length_drop, Array.length_toList, hrl]
        omega
      · have hA : (xss.take k).flatten.length = k * sz := by
          rw [flatten_length _ sz (fun x hx => hxs x (List.take_subset _ _ hx)), List.length_take, hxl]; congr 1; omega
        have hB : cur.toList.take (k * sz) = (xss.take k).flatten := by
          have e5 : cur.toList.take (k * sz) = (cur.toList.take (n * sz)).take (k * sz) := by rw [List.take_take, Nat.min_eq_left (by omega)]
          have e6 : xss.flatten = (xss.take k).flatten ++ (xss.drop k).flatten := by rw [← List.flatten_append, List.take_append_drop]
          rw [e5, htk, e6, ← hA, List.take_left]
        rw [hB, List.flatten_append, List.toList_toArray]
        have : n * sz = ((xss.take k).flatten ++ (List.replicate (n - k) zs).flatten).length := by rw [List.length_append, hA, hrl]; omega
        rw [this, List.take_left]
end
end Go.Sx
