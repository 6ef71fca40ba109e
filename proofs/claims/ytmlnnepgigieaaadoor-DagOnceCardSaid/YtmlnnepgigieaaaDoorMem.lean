/- Memory that never turns again; calls through a value; text appended to bytes, and read from them. No program here. -/
import Derived.Test.YtmlnnepgigieaaaDoorDead
import Derived.Lib.AppendStr
import Derived.Laws.IdiomStrings
namespace Go.Sx

/-! ### memory that never turns again -/
/-- M stands as it stands. -/
def imm (M : PH) : HP := fun h => le M h
theorem imm_ent {M : PH} {R : HP} (hu : Up R) (h : R M) : ∀ k, imm M k → R k := fun _ hk => hu _ _ hk h
theorem Ent.imm {H : List HP} {M : PH} {R : HP} (i : Nat) (hi : nth H i = some (imm M)) (hu : Up R) (h : R M) (F : List HP) : Ent (H ++ F) R :=
  Ent.at i (nth_append hi F) hu (imm_ent hu h)
/-- What is the call's own, from now on read alone. -/
theorem freeze {p R : HP} {M : PH} {l : List HP} {h : PH} (hp' : ∀ k, p k → R k) (hu : Up R) (hs : sl (p :: imm M :: l) h) : ∃ M', le M M' ∧ R M' ∧ sl (imm M' :: l) h := by
  obtain ⟨h1, h2, d, e1, e2, k1, h3, h4, d', e3, e4, k3, k4⟩ := hs
  have d13 : dj h1 h3 := d.mono (le.refl _) e3
  refine ⟨un h1 h3, le.trans k3 (le_un_right d13), hu _ _ (le_un_left _ _) (hp' _ k1), un h1 h3, h4, ?_, ?_, le.trans e4 e2, le.refl _, k4⟩
  · exact dj_un (d.mono (le.refl _) e4) d'
  · exact un_le e1 (le.trans e3 e2)
/-- Facts that hold in a frame's chunks. -/
theorem Ent.via {L H F : List HP} {X : HP} (hF : Ent F (fun h => sl L h)) (hu : Up X) (h : Ent L X) : Ent (H ++ F) X := Ent.frame hu fun k hk => h k (hF k hk)
/-- Some of a list's chunks, together. -/
theorem Ent.star (is : List Nat) {H F L : List HP} (hok : okAt is H.length = true) (hp' : pick is H = L) : Ent (H ++ F) (fun h => sl L h) := fun h hs => by
  have := sl.picked hok hs
  rw [hp'] at this
  obtain ⟨_, _, _, e1, _, k1, _⟩ := this.split
  exact k1.mono e1
theorem Up.and {A B : HP} (ha : Up A) (hb : Up B) : Up (fun h => A h ∧ B h) := fun _ _ e h => ⟨ha _ _ e h.1, hb _ _ e h.2⟩
theorem Up.pure (c : Prop) : Up (fun _ => c) := fun _ _ _ h => h
theorem Up.sl (L : List HP) : Up (fun h => sl L h) := fun _ _ e h => h.mono e
theorem Ent.and {L : List HP} {A B : HP} (ha : Ent L A) (hb : Ent L B) : Ent L (fun h => A h ∧ B h) := fun h hs => ⟨ha h hs, hb h hs⟩

/-! ### calls through a value -/
theorem callsOperV {P : Program} {f : FuncId} {first : Array Value} {vs : List Value} {a : Act} {w : World} {e : Env} {fop : Operand} {args : List Operand} {ats : Array TypeId} {d : Option Nat} {ty : TypeId} {pos : String} {af : Array Edge} {g : Option (Nat × Bool)} (hc : ∀ as w, (callFunc f as).run P w = .ok (.enter f as) w) (he : EnvOk e a)
    (hf : ev e fop = some (.func (.func f) first #[])) (ha : evs e args = some vs) : (execOp a.eval ⟨d, .call ⟨.value fop, args.toArray, ats⟩, ty, pos, af, g⟩).run P w = .ok (.enter f (first.toList ++ vs).toArray) w := by
  have h1 := evs_eval he ha
  simp [execOp, resolve, ev_eval he hf, Deferred.ofValue, invoke, h1, hc]

section
variable {cx : Cx} {rx : Rx} {rest : List (Bool × Oper)} {e : Env} {H : List HP} {ty : TypeId} {pos : String} {af : Array Edge}
theorem OL.callV {f d : Nat} {first : Array Value} {vs : List Value} {R : HP} {pre : List HP} {post : Value → List HP → Prop} {fop : Operand} {args : List Operand} {ats : Array TypeId} (is : List Nat) (spec : FS cx.P f (first.toList ++ vs) R pre post)
    (hc : ∀ as w, (callFunc f as).run cx.P w = .ok (.enter f as) w) (hf : ev e fop = some (.func (.func f) first #[])) (ha : evs e args = some vs) (hok : okAt is H.length = true) (hp' : pick is H = pre) (hR : Ent (wipe is H ++ cx.F) R) (hd : Nat.blt d cx.N = true)
    (h : ∀ v H', post v H' → Nx cx rx rest ((d, v) :: e) (place is H' H)) : OL cx rx ((false, ⟨some d, .call ⟨.value fop, args.toArray, ats⟩, ty, pos, af, none⟩) :: rest) e H := by
  refine OL.act (K := fun e' H' => ∃ v N, post v N ∧ e' = (d, v) :: e ∧ H' = place is N H) ?_ ?_
  · intro a w hs Q next hn
    have h1 := hs.heap.parts cx.F hok
    rw [hp'] at h1
    unfold Oper.wp
    rw [callsOperV hc hs.env hf ha]
    refine (spec (wipe is H ++ cx.F) w hR h1).mono fun en w' ⟨v, N, hen, hpost, hst, hh⟩ => ?_
    subst hen
    exact hn _ _ ⟨v, N, hpost, rfl, rfl⟩ _ _ ((hs.world hst (sl.placed hok hh)).put hd)
  · rintro e' H' ⟨v, N, hpost, rfl, rfl⟩
    have := h v N hpost
    exact ⟨this.ok, this.held, this.go⟩
end
theorem Y.makeFunc {P : Program} {HH : List HP} {e : Env} {d : Option Nat} {ty : TypeId} {pos : String} {af : Array Edge} {g : Option (Nat × Bool)} {fn : Fn} {xs : List Operand} {vs : List Value} (h : evs e xs = some vs) : Yv P HH e ⟨d, .makeFunc fn xs.toArray #[], ty, pos, af, g⟩ (.func fn vs.toArray #[]) := fun a w he _ => by
  have h1 := evs_eval he h
  simp [execOp, Instr.makeFunc, h1]


/-! ### bytes -/
def byteRows (s : ByteArray) : List (List Value) := s.data.toList.map fun b => [.int .u8 (b.toNat : Int)]
theorem byteRows_flat (s : ByteArray) : (byteRows s).flatten = Lib.strCells s := by
  unfold byteRows Lib.strCells
  generalize s.data.toList = l
  induction l with
  | nil => rfl
  | cons b l ih => simp_all
theorem byteRows_len (s : ByteArray) : (byteRows s).length = s.size := by
  unfold byteRows
  rw [List.length_map, Array.length_toList]
  rfl
theorem byteRows_sz (s : ByteArray) : ∀ x ∈ byteRows s, x.length = 1 := fun x hx => by
  obtain ⟨b, _, rfl⟩ := List.mem_map.1 hx
  rfl
theorem byteRows_append (s r : ByteArray) : byteRows (s ++ r) = byteRows s ++ byteRows r := by
  unfold byteRows
  rw [ByteArray.data_append, Array.toList_append, List.map_append]

section
variable {H : List HP} {ty : TypeId}
theorem run_appendS {w : World} {P : Program} {t u el n c bytes i : Nat} {a : Option Addr} {zs : List Value} {xss : List (List Value)} {F : List HP} (s : ByteArray)
    (hi : nth H i = some (row a n c el 1 xss)) (ht : P.underlying t = some (.slice el)) (hut : P.underlying u = some .string) (hE : Elt P el 1 bytes zs) (hs : sl (H ++ F) (hp w))
    (hlen : n + s.size ≤ 9223372036854775807) (hby : (n + s.size) * bytes ≤ 140737488355328) (h4 : s.size * bytes ≤ 281474976710656) :
    ∃ a' c' w', (Builtin.append_ #[t, u] ty #[.slice a n c, .string s]).run P w = .ok (.slice a' (n + s.size) c') w' ∧ St w w' ∧ sl (H.set i (row a' (n + s.size) c' el 1 (xss ++ byteRows s)) ++ F) (hp w') := by
  obtain ⟨info, hinfo, hsz, hbytes, z, hz, hzc⟩ := hE.is
  have hsz1 : info.size = 1 := hsz
  subst hbytes
  have hyfl : (byteRows s).flatten = Lib.strCells s := byteRows_flat s
  have hyl : (byteRows s).length = s.size := byteRows_len s
  have hzl : zs.length = 1 := hE.len
  obtain ⟨h1', h2', _, e1, _, hrow, _⟩ := hs.take (nth_append hi F)
  have hrow' := hrow
  obtain ⟨hxl, hxs, hcase⟩ := hrow
  have hxfl : xss.flatten.length = n := by rw [flatten_length xss _ hxs, hxl, Nat.mul_one]
  have hall : ∀ r ∈ xss ++ byteRows s, r.length = 1 := fun r hr => (List.mem_append.1 hr).elim (hxs r) (byteRows_sz s r)
  have hmax : n + s.size ≤ maxLen := by simp only [maxLen]; omega
  have fresh : ∀ old, sl (H.set i (row (some ⟨w.heap.size, 0, none⟩) (n + s.size) (grownCap w (n + s.size) old el) el 1 (xss ++ byteRows s)) ++ F)
      (hp (w.drew.alloc (.cells (xss.flatten.toArray ++ (Lib.strCells s).toArray ++ Builtin.zeroCells z.cells (grownCap w (n + s.size) old el - (n + s.size))) el))) := by
    intro old
    have hge := grownCap_ge w (n + s.size) old el
    have hcm := grownCap_le_maxLen w (n + s.size) old el hmax
    have : hp (w.drew.alloc (.cells (xss.flatten.toArray ++ (Lib.strCells s).toArray ++ Builtin.zeroCells z.cells (grownCap w (n + s.size) old el - (n + s.size))) el)) =
        upd (hp w) w.heap.size (.cells (xss.flatten.toArray ++ (Lib.strCells s).toArray ++ Builtin.zeroCells z.cells (grownCap w (n + s.size) old el - (n + s.size))) el) := hp_alloc w.drew _
    rw [this]
    refine sl_set_new hi (hp_top w) hs fun k hk => ⟨by simp [hxl, hyl], hall, .inr ⟨w.heap.size, _, rfl, hk, hge, hcm, ?_, ?_⟩⟩
    · simp only [Array.size_append, List.size_toArray, size_zeroCells, hxfl, Lib.strCells_length, hzc, hzl, Nat.mul_one]
      omega
    · simp only [Array.toList_append, List.append_assoc, List.flatten_append, hyfl]
      rw [← List.append_assoc, show (n + s.size) * 1 = (xss.flatten ++ Lib.strCells s).length by rw [List.length_append, hxfl, Lib.strCells_length, Nat.mul_one]]
      exact List.take_left
  rcases hcase with ⟨rfl, rfl, rfl⟩ | ⟨g, cur, rfl, hg, hn, hc, hcs, htk⟩
  · have hx0 : xss = [] := List.eq_nil_of_length_eq_zero hxl
    subst hx0
    by_cases hm : s.size = 0
    · have hy0 : byteRows s = [] := List.eq_nil_of_length_eq_zero (by rw [hyl, hm])
      refine ⟨none, 0, w, ?_, St.refl w, ?_⟩
      · have hf := Lib.run_firstCells_string (P := P) w 1 s
        rw [hm] at hf
        have hn0 : Lib.strCells s = [] := List.eq_nil_of_length_eq_zero (by rw [Lib.strCells_length]; exact hm)
        rw [hn0] at hf
        simp [Builtin.append_, run_underlying ht, run_underlying hut, sizeOf, typeInfo, hinfo, hsz1, Builtin.lenOf, hm, hf]
      · rw [hy0, hm]
        exact sl_set_mono hi hs (fun _ h => h)
    · have hrun := run_append_nil_string (P := P) w t u ty el info z ht hut hinfo hz s (by omega) (by omega) h4
      have hf := fresh 0
      have e9 : s.data.map (fun b => Value.int .u8 b.toNat) = (Lib.strCells s).toArray := by
        apply Array.ext'
        simp [Lib.strCells]
      rw [e9] at hrun
      simp only [Nat.zero_add, List.nil_append, List.flatten_nil, Array.empty_append] at hf hrun ⊢
      exact ⟨_, _, _, hrun, ⟨rfl, rfl, rfl, by simp⟩, hf⟩
  · have hgw : w.heap[g]? = some (.cells cur el (0, 0)) := e1 _ _ hg
    by_cases hroom : n + s.size ≤ c
    · have hfit : n + s.size ≤ cur.size := by rw [hcs]; omega
      have hrun := Lib.run_append_room_string (P := P) w t u ty el info ht hut hinfo hsz1 g n c cur hgw s hroom hfit
      refine ⟨_, _, _, hrun, St.setRow _ _ _, ?_⟩
      rw [hp_setRow hgw]
      have hblk : ∀ kk, row (some ⟨g, 0, none⟩) n c el 1 xss kk → ∃ cur, kk g = some (.cells cur el (0, 0)) := by
        rintro kk ⟨_, _, h | ⟨g', cur', he, hg', _⟩⟩
        · exact absurd h.1 (by simp)
        · cases he; exact ⟨cur', hg'⟩
      have h1 := hs.take (nth_append hi F)
      obtain ⟨k1, k2, dd, f1, f2, hk1, hk2⟩ := h1
      obtain ⟨cur', hcur'⟩ := hblk k1 hk1
      have hpt : sl (pts g (.cells cur' el (0, 0)) :: (H ++ F).eraseIdx i) (hp w) := ⟨k1, k2, dd, f1, f2, hcur', hk2⟩
      have h3 := (sl_upd (o' := .cells (cur.toList.take n ++ Lib.strCells s ++ cur.toList.drop (n + s.size)).toArray el (0, 0)) hpt).head_mono
        (q := row (some ⟨g, 0, none⟩) (n + s.size) c el 1 (xss ++ byteRows s)) (fun kk hk => ⟨by simp [hxl, hyl], hall, .inr ⟨g, _, rfl, hk, hroom, hc, by
          simp only [List.size_toArray, List.length_append, List.length_take, List.length_drop, Array.length_toList, Lib.strCells_length]; omega, by
          rw [Nat.mul_one] at htk
          simp only [List.flatten_append, hyfl]
          rw [htk, show (n + s.size) * 1 = (xss.flatten ++ Lib.strCells s).length by rw [List.length_append, hxfl, Lib.strCells_length, Nat.mul_one]]
          exact List.take_left⟩⟩)
      have e3 : (H ++ F).set i (row (some ⟨g, 0, none⟩) (n + s.size) c el 1 (xss ++ byteRows s)) = H.set i (row (some ⟨g, 0, none⟩) (n + s.size) c el 1 (xss ++ byteRows s)) ++ F := List.set_append_left _ _ (nth_lt hi)
      rw [← e3]
      exact sl.lay (by have := nth_lt hi; simp; omega) h3
    · have holds : ∀ j u, xss.flatten[j]? = some u → w.cell? ((⟨g, 0, none⟩ : Addr).add j) = some u := fun j u hj => by
        have hrr := row_rd h1' hrow'
        have := rd_flat hrr (by decide) j u hj
        rw [Addr.add_lit]
        exact ((Up.cellIs _ _ _ _ _ e1 this)).cell
      have hrun := Lib.run_append_grow_string (P := P) w t u ty el info z ht hut hinfo hz ⟨g, 0, none⟩ n c xss.flatten (by rw [hxfl, hsz1, Nat.mul_one]) holds s (by omega) (by omega) (growslice_fits (by omega) hby)
      exact ⟨_, _, _, hrun, ⟨rfl, rfl, rfl, by simp⟩, fresh c⟩
end
section
variable {cx : Cx} {rx : Rx} {rest : List (Bool × Oper)} {e : Env} {H : List HP} {ty : TypeId} {pos : String} {af : Array Edge}
theorem OL.appendS {t u el n c bytes d : Nat} {a : Option Addr} {x y : Operand} {zs : List Value} {xss : List (List Value)} {s : ByteArray} (i : Nat) (hi : nth H i = some (row a n c el 1 xss)) (ht : cx.P.underlying t = some (.slice el)) (hut : cx.P.underlying u = some .string) (hE : Elt cx.P el 1 bytes zs)
    (hx : ev e x = some (.slice a n c)) (hy : ev e y = some (.string s)) (hlen : n + s.size ≤ 9223372036854775807) (hby : (n + s.size) * bytes ≤ 140737488355328) (h4 : s.size * bytes ≤ 281474976710656) (hd : Nat.blt d cx.N = true)
    (h : ∀ a' c', Nx cx rx rest ((d, .slice a' (n + s.size) c') :: e) (H.set i (row a' (n + s.size) c' el 1 (xss ++ byteRows s)))) :
    OL cx rx ((false, ⟨some d, .call ⟨.builtin .append, #[x, y], #[t, u]⟩, ty, pos, af, none⟩) :: rest) e H := by
  refine OL.does (fun v H' => ∃ a' c', v = .slice a' (n + s.size) c' ∧ H' = H.set i (row a' (n + s.size) c' el 1 (xss ++ byteRows s))) hd ?_ ?_
  · intro av w he hsl
    obtain ⟨a', c', w', hrun, hst, hh⟩ := run_appendS (ty := ty) s hi ht hut hE hsl hlen hby h4
    refine ⟨_, w', ?_, hst, _, ⟨a', c', rfl, rfl⟩, hh⟩
    simp [execOp, resolve, ev_eval he hx, ev_eval he hy, invoke, builtin, hrun]
  · rintro v H' ⟨a', c', rfl, rfl⟩; exact h a' c'
end
/-- string(b) -/
theorem Y.b2s {P : Program} {HH : List HP} {e : Env} {d : Option Nat} {ty : TypeId} {pos : String} {af : Array Edge} {g : Option (Nat × Bool)} {x : Operand} {t u el n c : Nat} {a : Option Addr} {s : ByteArray} (ht : P.underlying t = some (.slice el)) (hel : P.underlying el = some (.int .u8)) (hu : P.underlying u = some .string)
    (hx : ev e x = some (.slice a n c)) (hr : Ent HH (rd a n 1 (byteRows s))) : Yv P HH e ⟨d, .convert t u x, ty, pos, af, g⟩ (.string s) := fun av w he hs => by
  obtain ⟨hl, _, ha, hc⟩ := hr _ hs
  rw [byteRows_len] at hl
  simp only [execOp, ev_eval he hx]
  by_cases hn : n = 0
  · subst hn
    have hs0 : s = ByteArray.empty := by
      have : s.data.size = 0 := hl
      cases s with
      | mk d => simp at this; subst this; rfl
    subst hs0
    cases a with
    | none => simp [convert, run_underlying ht, run_underlying hu, run_underlying hel, Conv.bytesToString]
    | some a =>
      have := run_convert_bytes_back (P := P) w t u el a c [] ht hel hu (fun j hj => by simp at hj)
      simp only [List.length_nil] at this
      simp [this]; rfl
  · have ha' := ha (by omega)
    generalize ab a = b at *
    generalize ao a = o at *
    subst ha'
    have hlen : s.data.toList.length = n := by rw [Array.length_toList]; exact hl
    have := run_convert_bytes_back (P := P) w t u el ⟨b, o, none⟩ c s.data.toList ht hel hu (fun j hj => by
      rw [Addr.add_lit]
      have h1 : (byteRows s)[j]? = some [.int .u8 ((s.data.toList[j]).toNat : Int)] := by unfold byteRows; rw [List.getElem?_map, List.getElem?_eq_getElem hj]; rfl
      have h2 := hc j _ h1 0 _ rfl
      rw [Nat.mul_one, Nat.add_zero] at h2
      exact h2.cell)
    rw [hlen] at this
    simp [this]

section
variable {P : Program} {HH : List HP} {e : Env} {d : Option Nat} {ty : TypeId} {pos : String} {af : Array Edge} {g : Option (Nat × Bool)} {x y : Operand} {t u : TypeId}
theorem Y.xor {k : IntKind} {m n : Int} (hx : ev e x = some (.int k m)) (hy : ev e y = some (.int k n)) : Yv P HH e ⟨d, .binOp .xor t x y u, ty, pos, af, g⟩ (.int k (bits .xor k m n)) := fun a w he _ => by
  simp [execOp, ev_eval he hx, ev_eval he hy, eqGuard, binOp, Op.intBits, bits]
theorem Y.strMid {k l : Nat} {s : ByteArray} {b c : Operand} {ik jk : IntKind} {i j : Int} (ht : P.underlying t = some .string) (hx : ev e x = some (.string s)) (hb : ev e b = some (.int ik i)) (hc : ev e c = some (.int jk j)) (hi : i = k) (hj : j = l) (hk : k ≤ l) (hl : l ≤ s.size) :
    Yv P HH e ⟨d, .slice t x (some b) (some c) none, ty, pos, af, g⟩ (.string (s.extract k l)) := fun av w he _ => by
  subst hi hj
  simp [execOp, ev_eval he hx, ev_eval he hb, ev_eval he hc, Instr.sliceAt, Instr.slice, run_underlying ht, Instr.sliceBounds, Instr.sliceBound, asIntOf, hk, hl]
end
end Go.Sx
