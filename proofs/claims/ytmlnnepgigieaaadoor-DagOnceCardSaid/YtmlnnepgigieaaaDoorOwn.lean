/- append, make, stores into elements: slices of the call's own. No program here. -/
import Derived.Test.YtmlnnepgigieaaaDoorActs
namespace Go.Sx

theorem hp_drew (w : World) : hp w.drew = hp w := rfl
theorem hp_setRow {w : World} {g : Nat} {cs : Array Value} {t : TypeId} {z : Nat × Nat} (h : hp w g = some (.cells cs t z)) (ds : Array Value) : hp (w.setRow g ds) = upd (hp w) g (.cells ds t z) := by
  funext x
  by_cases hx : x = g
  · subst hx
    have := setRow_heap w x cs ds t z h
    simp [hp, upd, this]
  · have := setRow_other w g x ds hx
    simp [hp, upd, hx, this]
theorem St.setRow (w : World) (g : Nat) (ds : Array Value) : St w (w.setRow g ds) := ⟨rfl, rfl, rfl, by simp [World.setRow]⟩

theorem rd_flat {a : Option Addr} {n sz : Nat} {xss : List (List Value)} {h : PH} (hr : rd a n sz xss h) (hsz : 0 < sz) : ∀ j u, xss.flatten[j]? = some u → cellIs (ab a) (ao a + j) u h := by
  intro j u hj
  obtain ⟨hl, hs, _, hc⟩ := hr
  have hlt : j < xss.flatten.length := (List.getElem?_eq_some_iff.1 hj).1
  rw [flatten_length xss sz hs] at hlt
  have hk : j / sz < xss.length := by rw [Nat.div_lt_iff_lt_mul hsz]; exact hlt
  have hm : j % sz < sz := Nat.mod_lt _ hsz
  have hxs : xss[j / sz]? = some xss[j / sz] := List.getElem?_eq_getElem hk
  have hlen : (xss[j / sz]).length = sz := hs _ (List.getElem_mem hk)
  have hv : (xss[j / sz])[j % sz]? = some (xss[j / sz])[j % sz] := List.getElem?_eq_getElem (by omega)
  have e1 := flatten_at xss sz (j / sz) (j % sz) _ _ hs hxs hv
  have e2 : j / sz * sz + j % sz = j := Nat.div_add_mod' j sz
  rw [e2] at e1
  rw [hj] at e1
  cases e1
  have := hc _ _ hxs _ _ hv
  rwa [Nat.add_assoc, e2] at this

section
variable {cx : Cx} {rx : Rx} {rest : List (Bool × Oper)} {e : Env} {H : List HP} {ty : TypeId} {pos : String} {af : Array Edge}

theorem sl_set_new {F H : List HP} {i b : Nat} {o : Obj} {p q : HP} {h : PH} (hi : nth H i = some p) (hb : h b = none) (hs : sl (H ++ F) h) (hq : ∀ k, pts b o k → q k) : sl (H.set i q ++ F) (upd h b o) := by
  have h1 := (hs.take (nth_append hi F)).drop
  have h2 := (sl_new (o := o) hb h1).head_mono hq
  have e3 : (H ++ F).set i q = H.set i q ++ F := List.set_append_left _ _ (nth_lt hi)
  rw [← e3]
  exact sl.lay (by have := nth_lt hi; simp; omega) h2

theorem sl_set_upd {F H : List HP} {i b : Nat} {o o' : Obj} {p q : HP} {h : PH} (hi : nth H i = some p) (hp : ∀ k, p k → k b = some o) (hs : sl (H ++ F) h) (hq : ∀ k, pts b o' k → q k) : sl (H.set i q ++ F) (upd h b o') := by
  have h1 := (hs.take (nth_append hi F)).head_mono (q := pts b o) (fun k hk => hp k hk)
  have h2 := (sl_upd (o' := o') h1).head_mono hq
  have e3 : (H ++ F).set i q = H.set i q ++ F := List.set_append_left _ _ (nth_lt hi)
  rw [← e3]
  exact sl.lay (by have := nth_lt hi; simp; omega) h2

theorem sl_set_mono {F H : List HP} {i : Nat} {p q : HP} {h : PH} (hi : nth H i = some p) (hs : sl (H ++ F) h) (hq : ∀ k, p k → q k) : sl (H.set i q ++ F) h := by
  have h2 := (hs.take (nth_append hi F)).head_mono hq
  have e3 : (H ++ F).set i q = H.set i q ++ F := List.set_append_left _ _ (nth_lt hi)
  rw [← e3]
  exact sl.lay (by have := nth_lt hi; simp; omega) h2

theorem row_sz {h : PH} {a : Option Addr} {n c el sz : Nat} {xss : List (List Value)} (hr : row a n c el sz xss h) : xss.flatten.length = n * sz := by
  rw [flatten_length xss sz hr.2.1, hr.1]

/-- What append does, whatever the room. -/
theorem run_append {w : World} {P : Program} {t el n c m k sz bytes i : Nat} {a x : Option Addr} {zs : List Value} {xss yss : List (List Value)} {F : List HP}
    (hi : nth H i = some (row a n c el sz xss)) (ht : P.underlying t = some (.slice el)) (hE : Elt P el sz bytes zs) (hs : sl (H ++ F) (hp w)) (hr : rd x m sz yss (hp w)) (h1 : ∀ r ∈ yss, ∀ v ∈ r, v.oneCell' = true)
    (hlen : n + m ≤ 9223372036854775807) (hby : (n + m) * bytes ≤ 140737488355328) :
    ∃ a' c' w', (Builtin.append_ #[t, t] ty #[.slice a n c, .slice x m k]).run P w = .ok (.slice a' (n + m) c') w' ∧ St w w' ∧ sl (H.set i (row a' (n + m) c' el sz (xss ++ yss)) ++ F) (hp w') := by
  obtain ⟨info, hinfo, hsz, hbytes, z, hz, hzc⟩ := hE.is
  subst hsz hbytes
  have hpos := hE.pos
  obtain ⟨hyl, hys, hya, _⟩ := id hr
  have hflat := rd_flat hr hpos
  have hyfl : yss.flatten.length = m * info.size := by rw [flatten_length yss _ hys, hyl]
  have hone : ∀ u ∈ yss.flatten, u.oneCell' = true := fun u hu => by
    obtain ⟨r, hr1, hr2⟩ := List.mem_flatten.1 hu
    exact h1 r hr1 u hr2
  obtain ⟨h1', h2', _, e1, _, hrow, _⟩ := hs.take (nth_append hi F)
  have hrow' := hrow
  obtain ⟨hxl, hxs, hcase⟩ := hrow
  have hxfl : xss.flatten.length = n * info.size := by rw [flatten_length xss _ hxs, hxl]
  have hall : ∀ r ∈ xss ++ yss, r.length = info.size := fun r hr => (List.mem_append.1 hr).elim (hxs r) (hys r)
  have hmax : n + m ≤ maxLen := by simp only [maxLen]; omega
  -- what a new block is good for
  have fresh : ∀ old, sl (H.set i (row (some ⟨w.heap.size, 0, none⟩) (n + m) (grownCap w (n + m) old el) el info.size (xss ++ yss)) ++ F)
      (hp (w.drew.alloc (.cells (xss.flatten.toArray ++ yss.flatten.toArray ++ Builtin.zeroCells z.cells (grownCap w (n + m) old el - (n + m))) el))) := by
    intro old
    have hge := grownCap_ge w (n + m) old el
    have hcm := grownCap_le_maxLen w (n + m) old el hmax
    have : hp (w.drew.alloc (.cells (xss.flatten.toArray ++ yss.flatten.toArray ++ Builtin.zeroCells z.cells (grownCap w (n + m) old el - (n + m))) el)) =
        upd (hp w) w.heap.size (.cells (xss.flatten.toArray ++ yss.flatten.toArray ++ Builtin.zeroCells z.cells (grownCap w (n + m) old el - (n + m))) el) := hp_alloc w.drew _
    rw [this]
    refine sl_set_new hi (hp_top w) hs fun k hk => ⟨by simp [hxl, hyl], hall, .inr ⟨w.heap.size, _, rfl, hk, hge, hcm, ?_, ?_⟩⟩
    · simp only [Array.size_append, List.size_toArray, size_zeroCells, hxfl, hyfl, hzc, hE.len, ← Nat.add_mul]
      congr 1
      omega
    · simp only [Array.toList_append, List.append_assoc, List.flatten_append]
      rw [← List.append_assoc, show (n + m) * info.size = (xss.flatten ++ yss.flatten).length by rw [List.length_append, hxfl, hyfl, Nat.add_mul]]
      exact List.take_left
  by_cases hm : m = 0
  · subst hm
    have hy0 : yss = [] := List.eq_nil_of_length_eq_zero hyl
    subst hy0
    refine ⟨a, c, w, ?_, St.refl w, ?_⟩
    · have hnc : n ≤ c := by
        rcases hcase with ⟨_, rfl, _⟩ | ⟨_, _, _, _, h, _⟩
        · exact Nat.zero_le _
        · exact h
      have hfc : (Builtin.firstCells info.size 0 (.slice x 0 k)).run P w = .ok #[] w := by
        cases x <;> simp [Builtin.firstCells, loadCells, loadCellsFrom]
      cases a <;> simp [Builtin.append_, run_underlying ht, sizeOf, typeInfo, hinfo, Builtin.lenOf, hnc, hfc, storeCells]
    · simp only [List.append_nil, Nat.add_zero]
      exact sl_set_mono hi hs (fun _ h => h)
  · have hx := hya (by omega)
    generalize hab : ab x = bx at *
    generalize hao : ao x = ox at *
    subst hx
    have hnews : ∀ j u, yss.flatten[j]? = some u → w.cell? ((⟨bx, ox, none⟩ : Addr).add j) = some u := fun j u hj => by
      rw [Addr.add_lit]; exact (hflat j u hj).cell
    rcases hcase with ⟨rfl, rfl, rfl⟩ | ⟨g, cur, rfl, hg, hn, hc, hcs, htk⟩
    · have hx0 : xss = [] := List.eq_nil_of_length_eq_zero hxl
      subst hx0
      have hrun := run_append_nil (P := P) w t ty el info z ht hinfo hz ⟨bx, ox, none⟩ m k yss.flatten hyfl hnews (by omega) (by omega) (by simp only [Nat.zero_add] at hby; omega)
      have hf := fresh 0
      simp only [Nat.zero_add, List.nil_append, List.flatten_nil, Array.empty_append] at hf hrun ⊢
      exact ⟨_, _, _, hrun, ⟨rfl, rfl, rfl, by simp⟩, hf⟩
    · have hgw : w.heap[g]? = some (.cells cur el (0, 0)) := e1 _ _ hg
      by_cases hroom : n + m ≤ c
      · have hfit : n * info.size + yss.flatten.length ≤ cur.size := by rw [hyfl, hcs, ← Nat.add_mul]; exact Nat.mul_le_mul_right _ hroom
        have hrun := run_append_room (P := P) w t ty el info ht hinfo g n c cur hgw ⟨bx, ox, none⟩ m k yss.flatten hyfl hnews hone hroom hfit
        refine ⟨_, _, _, hrun, St.setRow _ _ _, ?_⟩
        rw [hp_setRow hgw]
        have hblk : ∀ kk, row (some ⟨g, 0, none⟩) n c el info.size xss kk → ∃ cur, kk g = some (.cells cur el (0, 0)) := by
          rintro kk ⟨_, _, h | ⟨g', cur', he, hg', _⟩⟩
          · exact absurd h.1 (by simp)
          · cases he; exact ⟨cur', hg'⟩
        have h1 := hs.take (nth_append hi F)
        obtain ⟨k1, k2, dd, f1, f2, hk1, hk2⟩ := h1
        obtain ⟨cur', hcur'⟩ := hblk k1 hk1
        have hpt : sl (pts g (.cells cur' el (0, 0)) :: (H ++ F).eraseIdx i) (hp w) := ⟨k1, k2, dd, f1, f2, hcur', hk2⟩
        have h3 := (sl_upd (o' := .cells (cur.toList.take (n * info.size) ++ yss.flatten ++ cur.toList.drop (n * info.size + yss.flatten.length)).toArray el (0, 0)) hpt).head_mono
          (q := row (some ⟨g, 0, none⟩) (n + m) c el info.size (xss ++ yss)) (fun kk hk => ⟨by simp [hxl, hyl], hall, .inr ⟨g, _, rfl, hk, hroom, hc, by
            simp only [List.size_toArray, List.length_append, List.length_take, List.length_drop, Array.length_toList]; omega, by
            simp only [List.flatten_append]
            rw [htk, show (n + m) * info.size = (xss.flatten ++ yss.flatten).length by rw [List.length_append, hxfl, hyfl, Nat.add_mul]]
            exact List.take_left⟩⟩)
        have e3 : (H ++ F).set i (row (some ⟨g, 0, none⟩) (n + m) c el info.size (xss ++ yss)) = H.set i (row (some ⟨g, 0, none⟩) (n + m) c el info.size (xss ++ yss)) ++ F := List.set_append_left _ _ (nth_lt hi)
        rw [← e3]
        exact sl.lay (by have := nth_lt hi; simp; omega) h3
      · have holds : ∀ j u, xss.flatten[j]? = some u → w.cell? ((⟨g, 0, none⟩ : Addr).add j) = some u := fun j u hj => by
          have hrr := row_rd h1' hrow'
          have := rd_flat hrr hpos j u hj
          rw [Addr.add_lit]
          exact ((Up.cellIs _ _ _ _ _ e1 this)).cell
        have hrun := run_append_grow (P := P) w t ty el info z ht hinfo hz ⟨g, 0, none⟩ n c xss.flatten hxfl holds ⟨bx, ox, none⟩ m k yss.flatten hyfl hnews (by omega) (by omega) (growslice_fits (by omega) hby)
        exact ⟨_, _, _, hrun, ⟨rfl, rfl, rfl, by simp⟩, fresh c⟩

/-- s = append(s, y...) -/
theorem OL.append {t el n c m k sz bytes d : Nat} {a x : Option Addr} {s y : Operand} {zs : List Value} {xss : List (List Value)} (yss : List (List Value)) (i : Nat) (hi : nth H i = some (row a n c el sz xss)) (ht : cx.P.underlying t = some (.slice el)) (hE : Elt cx.P el sz bytes zs)
    (hs : ev e s = some (.slice a n c)) (hy : ev e y = some (.slice x m k)) (hr : Ent (H ++ cx.F) (rd x m sz yss)) (h1 : oneRows yss = true) (hlen : n + m ≤ 9223372036854775807) (hby : (n + m) * bytes ≤ 140737488355328) (hd : Nat.blt d cx.N = true)
    (h : ∀ a' c', Nx cx rx rest ((d, .slice a' (n + m) c') :: e) (H.set i (row a' (n + m) c' el sz (xss ++ yss)))) :
    OL cx rx ((false, ⟨some d, .call ⟨.builtin .append, #[s, y], #[t, t]⟩, ty, pos, af, none⟩) :: rest) e H := by
  refine OL.does (fun v H' => ∃ a' c', v = .slice a' (n + m) c' ∧ H' = H.set i (row a' (n + m) c' el sz (xss ++ yss))) hd ?_ ?_
  · intro av w he hsl
    obtain ⟨a', c', w', hrun, hst, hh⟩ := run_append (ty := ty) (k := k) hi ht hE hsl (hr _ hsl) (oneRows_mem h1) hlen hby
    refine ⟨_, w', ?_, hst, _, ⟨a', c', rfl, rfl⟩, hh⟩
    simp [execOp, resolve, ev_eval he hs, ev_eval he hy, invoke, builtin, hrun]
  · rintro v H' ⟨a', c', rfl, rfl⟩; exact h a' c'

/-- An empty slice of the call's own, to begin with. -/
theorem row_nil (el sz : Nat) : ∀ h, emp h → row none 0 0 el sz [] h := fun _ _ => ⟨rfl, (fun _ hx => nomatch hx), .inl ⟨rfl, rfl, rfl⟩⟩

/-- make([]T, l, c) -/
theorem OL.make {t el l c sz bytes d : Nat} {x y : Operand} {kx ky : IntKind} {lx cy : Int} {zs : List Value} (ht : cx.P.underlying t = some (.slice el)) (hE : Elt cx.P el sz bytes zs) (hx : ev e x = some (.int kx lx)) (hy : ev e y = some (.int ky cy)) (hl : lx = l) (hc : cy = c)
    (hlc : l ≤ c) (hby : bytes * c ≤ 281474976710656) (hmax : c ≤ 9223372036854775807) (hd : Nat.blt d cx.N = true)
    (h : ∀ g, Nx cx rx rest ((d, .slice (some ⟨g, 0, none⟩) l c) :: e) (H ++ [row (some ⟨g, 0, none⟩) l c el sz (List.replicate l zs)])) :
    OL cx rx ((false, ⟨some d, .makeSlice t x y, ty, pos, af, none⟩) :: rest) e H := by
  subst hl hc
  refine OL.does (fun v H' => ∃ g, v = .slice (some ⟨g, 0, none⟩) l c ∧ H' = H ++ [row (some ⟨g, 0, none⟩) l c el sz (List.replicate l zs)]) hd ?_ ?_
  · intro a w he hs
    obtain ⟨info, hinfo, hsz, hbytes, z, hz, hzc⟩ := hE.is
    subst hsz hbytes
    have hb' : (info.bytes : Int) * (c : Int) ≤ 281474976710656 := by
      have h : ((info.bytes * c : Nat) : Int) ≤ 281474976710656 := by omega
      rwa [Int.natCast_mul] at h
    have hrun := run_make (P := cx.P) w t el info z ht hinfo hz kx ky l c (by omega) (by omega) hb' (by omega)
    simp only [Int.toNat_natCast] at hrun
    refine ⟨.slice (some ⟨w.heap.size, 0, none⟩) l c, w.alloc (.cells (madeCells z.cells (c * info.size)) el), (by simp only [execOp, Sem.run_bind, ev_eval he hx, ev_eval he hy, hrun, Result.andThen_ok, Sem.run_pure]), St.alloc w _, _, ⟨w.heap.size, rfl, rfl⟩, ?_⟩
    have h8 : madeCells z.cells (c * info.size) = (List.replicate c zs).flatten.toArray := by
      have := range_rows zs c
      rw [hE.len] at this
      rw [← this, hzc]
      simp [madeCells, hE.len]
    have hfl : (List.replicate c zs).flatten.length = c * info.size := by
      rw [flatten_length _ info.size (fun x hx => by rw [List.eq_of_mem_replicate hx]; exact hE.len), List.length_replicate]
    rw [show hp (w.alloc (.cells (madeCells z.cells (c * info.size)) el)) = upd (hp w) w.heap.size (.cells (madeCells z.cells (c * info.size)) el) from hp_alloc w _]
    refine sl_pushI (hp_top w) hs fun k hk => ⟨by simp, fun x hx => by rw [List.eq_of_mem_replicate hx]; exact hE.len, .inr ⟨w.heap.size, _, rfl, hk, hlc, by simp only [maxLen]; omega, ?_, ?_⟩⟩
    · rw [h8, List.size_toArray, hfl]
    · rw [h8]
      have e1 : List.replicate c zs = List.replicate l zs ++ List.replicate (c - l) zs := by rw [List.replicate_append_replicate]; congr 1; omega
      have e2 : (List.replicate l zs).flatten.length = l * info.size := by
        rw [flatten_length _ info.size (fun x hx => by rw [List.eq_of_mem_replicate hx]; exact hE.len), List.length_replicate]
      rw [List.toList_toArray, e1, List.flatten_append, ← e2, List.take_left]
  · rintro v H' ⟨g, rfl, rfl⟩; exact h g

theorem setR_one (xs : List Value) (o : Nat) (v : Value) : setR xs o [v] = xs.set o v := rfl

/-- x[k].f = v, x a slice of the call's own. -/
theorem OL.storeRow {t n c el sz k j o bx : Nat} {a : Option Addr} {x y : Operand} {v : Value} {zs xs : List Value} {xss : List (List Value)} (i : Nat) (hi : nth H i = some (row a n c el sz xss)) (ht : TyC cx.P t 1 zs)
    (hx : ev e x = some (.pointer (some ⟨bx, o, none⟩))) (hb : bx = ab a) (ho : o = ao a + k * sz + j) (hy : ev e y = some v) (hv : v.cells = #[v]) (hv1 : v.oneCell' = true) (hk : xss[k]? = some xs) (hj : j < xs.length)
    (h : Nx cx rx rest e (H.set i (row a n c el sz (xss.set k (xs.set j v))))) : OL cx rx ((false, ⟨none, .store t x y, ty, pos, af, none⟩) :: rest) e H := by
  subst hb ho
  refine OL.skips (fun H' => H' = H.set i (row a n c el sz (xss.set k (xs.set j v)))) ?_ (by rintro H' rfl; exact h)
  intro av w he hs
  obtain ⟨k1, k2, dd, f1, f2, hrow, hk2⟩ := hs.take (nth_append hi cx.F)
  have hrd := row_rd _ hrow
  obtain ⟨hkl, hkx⟩ := List.getElem?_eq_some_iff.1 hk
  have hxsz : xs.length = sz := hrow.2.1 xs (hkx ▸ List.getElem_mem hkl)
  obtain ⟨hxl, hxs, hcase⟩ := hrow
  rcases hcase with ⟨_, rfl, _⟩ | ⟨g, cur, rfl, hg, hn, hc, hcs, htk⟩
  · omega
  · have hgw : hp w g = some (.cells cur el (0, 0)) := f1 _ _ hg
    have hfl := flatten_length xss sz hxs
    have hpos : k * sz + j < xss.flatten.length := by
      rw [hfl]
      have : (k + 1) * sz ≤ xss.length * sz := Nat.mul_le_mul_right _ hkl
      rw [Nat.add_mul, Nat.one_mul] at this
      omega
    have hcl : cur.toList.length = c * sz := by simpa using hcs
    have hin : k * sz + j < cur.size := by
      rw [← htk, List.length_take] at hpos
      have : cur.toList.length = cur.size := by simp
      omega
    have hcell : w.cell? ⟨g, k * sz + j, none⟩ = some cur[k * sz + j] := by
      have : w.heap[g]? = some (.cells cur el (0, 0)) := hgw
      simp [World.cell?, this, hin]
    have hfr : w.frozen? ⟨g, k * sz + j, none⟩ = false := by
      have : w.heap[g]? = some (.cells cur el (0, 0)) := hgw
      simp [World.frozen?, this]
    simp only [ab, ao, Nat.zero_add] at hx
    refine ⟨w.setCell ⟨g, k * sz + j, none⟩ v, .inl ?_, St.setCell _ _ _, _, rfl, ?_⟩
    · simp [execOp, ev_eval he hx, ev_eval he hy, Instr.storeAt, Instr.sureAddr, storeVar, hv, ht.size, storeCells, Addr.add_lit, run_store _ _ _ _ _ hv1, hcell, hfr]
    · rw [hp_setCell hgw]
      have hpt : sl (pts g (.cells cur el (0, 0)) :: (H ++ cx.F).eraseIdx i) (hp w) := ⟨k1, k2, dd, f1, f2, hg, hk2⟩
      have hfs : (xss.set k (xs.set j v)).flatten = xss.flatten.set (k * sz + j) v := by
        rw [flatten_set xss sz k (xs.set j v) hxs hkl (by simpa using hxsz)]
        -- the one row, cell by cell
        apply List.ext_getElem?
        intro q
        have key : ∀ (cs zs : List Value) (off : Nat), off + cs.length ≤ zs.length → (setR zs off cs)[q]? = if off ≤ q ∧ q < off + cs.length then cs[q - off]? else zs[q]? := by
          intro cs
          induction cs with
          | nil => intro zs off _; simp [setR]; omega
          | cons y cs ih =>
            intro zs off hle
            simp only [List.length_cons] at hle
            simp only [setR]
            rw [ih (zs.set off y) (off + 1) (by simp; omega)]
            by_cases hq : q = off
            · subst hq
              have h0 : q < zs.length := by omega
              have h1 : ¬ (q + 1 ≤ q ∧ q < q + 1 + cs.length) := by omega
              have h2 : q ≤ q ∧ q < q + (y :: cs).length := by simp
              rw [if_neg h1, if_pos h2, List.getElem?_set_self h0, Nat.sub_self]
              rfl
            · by_cases hq2 : off + 1 ≤ q ∧ q < off + 1 + cs.length
              · have h3 : q - off = (q - (off + 1)) + 1 := by omega
                rw [if_pos hq2, if_pos (by simp; omega), h3, List.getElem?_cons_succ]
              · rw [if_neg hq2, if_neg (by simp; omega), List.getElem?_set_ne (fun h => hq h.symm)]
        rw [key _ _ _ (by
          rw [List.length_set, hxsz, hfl]
          have : (k + 1) * sz ≤ xss.length * sz := Nat.mul_le_mul_right _ hkl
          rw [Nat.add_mul, Nat.one_mul] at this
          exact this)]
        simp only [List.length_set, hxsz]
        by_cases hq : k * sz ≤ q ∧ q < k * sz + sz
        · rw [if_pos hq]
          by_cases hqj : q = k * sz + j
          · subst hqj
            have : k * sz + j - k * sz = j := by omega
            rw [this, List.getElem?_set_self hj, List.getElem?_set_self hpos]
          · rw [List.getElem?_set_ne (by omega), List.getElem?_set_ne (by omega)]
            have hq' : q - k * sz < xs.length := by omega
            have h5 := flatten_at xss sz k (q - k * sz) xs _ hxs hk (List.getElem?_eq_getElem hq')
            have h6 : k * sz + (q - k * sz) = q := by omega
            rw [h6] at h5
            rw [h5, List.getElem?_eq_getElem hq']
        · rw [if_neg hq, List.getElem?_set_ne (by omega)]
      have h3 := (sl_upd (o' := .cells (cur.setIfInBounds (k * sz + j) v) el (0, 0)) hpt).head_mono
        (q := row (some ⟨g, 0, none⟩) n c el sz (xss.set k (xs.set j v))) (fun kk hk => ⟨by simpa using hxl, fun r hr => by
          rcases List.mem_or_eq_of_mem_set hr with hr | rfl
          · exact hxs r hr
          · simpa using hxsz, .inr ⟨g, _, rfl, hk, hn, hc, by simpa using hcs, by
          rw [hfs, ← htk, Array.toList_setIfInBounds, List.take_set]⟩⟩)
      have e3 : (H ++ cx.F).set i (row (some ⟨g, 0, none⟩) n c el sz (xss.set k (xs.set j v))) = H.set i (row (some ⟨g, 0, none⟩) n c el sz (xss.set k (xs.set j v))) ++ cx.F := List.set_append_left _ _ (nth_lt hi)
      rw [← e3]
      exact sl.lay (by have := nth_lt hi; simp; omega) h3
end
end Go.Sx
