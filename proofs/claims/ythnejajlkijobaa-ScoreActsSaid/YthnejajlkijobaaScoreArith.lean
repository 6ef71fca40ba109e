/- The functions of score and of its document that reckon: each yields what its Lean function says. -/
import Derived.Test.YthnejajlkijobaaScore
import Derived.Test.YthnejajlkijobaaArith
namespace Go.Proofs.Ythnejajlkijobaa
open Go.Sx

theorem L79_2 : Fld Try.prog 79 2 2 := ⟨⟨_, Try.underlying79, _, rfl, rfl, 1, by decide, Try.sizeOf48⟩⟩


abbrev lessC : Nat := 3110860544497550640
abbrev highC : Nat := 6103021453049119613
def highF (x : Nat) : Bool := decide (ford x highC = some .gt)
/-- A score, and what comes of it, is a word of 64 bits, no NaN, and no nought below nought. -/
def Good1 (x : Nat) : Prop := x < 2 ^ 64 ∧ nanD x = false ∧ (key x = 0 → x = 0)
def Good (xs : List Nat) : Prop := ∀ x ∈ xs, Good1 x
theorem Good.plain {xs : List Nat} (h : Good xs) : Plain xs := fun x hx => (h x hx).2
theorem kept_lt {x : Nat} (h : x < 2 ^ 64) : keptF x < 2 ^ 64 := by
  unfold keptF
  split
  · decide
  · split
    · decide
    · exact h
theorem kept_good {x : Nat} (h : x < 2 ^ 64) : Good1 (keptF x) := ⟨kept_lt h, kept_plain x⟩
theorem kept_nan {x : Nat} (h : nanD x = true) : keptF x = minf := by
  unfold keptF
  rw [isNan_eq, h]; rfl
theorem nan_nan1 : nanD nan1 = true := by decide +kernel
/-- What is kept of what an operation gave. -/
def keptO (o : Option Nat) : Nat := keptF (o.getD nan1)
theorem opR_kept {o : Option Nat} {r : Nat} (h : opR o r) : keptF r = keptO o := by
  cases o with
  | some q => simp only [opR] at h; subst h; rfl
  | none => unfold keptO; rw [kept_nan h]; exact (kept_nan nan_nan1).symm
theorem arith_lt {op : BinOp} {x y r : Nat} (h : arith op x y = some r) : r < 2 ^ 64 := by
  have := floatBits_wf h
  simpa [Lit.wf] using this
theorem keptO_good {op : BinOp} {x y : Nat} : Good1 (keptO (arith op x y)) := by
  unfold keptO
  cases h : arith op x y with
  | some r => exact kept_good (arith_lt h)
  | none => exact kept_good (by decide)
def lessX (x : Nat) : Nat := if infD x then x else keptO (arith .mul x lessC)
theorem lessX_good {x : Nat} (h : Good1 x) : Good1 (lessX x) := by
  unfold lessX
  split
  · exact h
  · exact keptO_good
theorem good_map {xs : List Nat} (h : Good xs) : Good (xs.map lessX) := fun y hy => by
  obtain ⟨x, hx, rfl⟩ := List.mem_map.1 hy
  exact lessX_good (h x hx)
theorem good_set {xs : List Nat} (h : Good xs) (k : Nat) {x : Nat} (hx : Good1 x) : Good (xs.set k x) := fun y hy => by
  rcases List.mem_or_eq_of_mem_set hy with hy | rfl
  · exact h y hy
  · exact hx
theorem good_zero (n : Nat) : Good (List.replicate n 0) := fun y hy => by
  rw [List.eq_of_mem_replicate hy]
  exact ⟨by decide, nan0, fun _ => rfl⟩
theorem high_inf {x : Nat} (hx : nanD x = false) (hh : highF x = true) : decide (ford x maxF = some .gt) = infD x := by
  unfold highF at hh
  rw [ford_gt hx (by decide +kernel)] at hh
  rw [gt_max hx]
  have hk : (0 : Int) ≤ key highC := by
    have : Ieee.double.read highC = .number false (2 ^ 52 + highC % 2 ^ 52) (-1074 + (highC / 2 ^ 52 - 1 : Nat)) := by decide +kernel
    unfold key
    rw [this]
    simp only [fKey, Ieee.signed, Bool.false_eq_true, if_false]
    exact Int.natCast_nonneg _
  have hh' : key highC < key x := of_decide_eq_true hh
  unfold infD
  unfold key at hh' hk
  generalize fKey (Ieee.double.read highC) = c at *
  have := big_pos
  cases hd : Ieee.double.read x with
  | nan s f => rfl
  | number s m i => rfl
  | infinity s =>
    rw [hd] at hh'
    cases s with
    | false => rfl
    | true => simp [fKey] at hh'; omega


theorem high_any (x : Nat) :
    FS Try.prog 44 [fl x] (nothing) [] (fun v H => v = .bool (highF x) ∧ H = []) := by
  refine FS.intro (N := 5) Try.func44 rfl rfl rfl (fun F w0 hF => ?_)
  refine CW.seq ?_
  refine CW.region ?_
  refine OL.q (Y.assign rfl) rfl ?_
  refine OL.nil ?_
  refine EX.seq ?_
  refine CW.seq ?_
  refine CW.region ?_
  refine OL.q (Y.move rfl) rfl ?_
  refine OL.q (Y.gtrF rfl rfl) rfl ?_
  refine OL.q (Y.assign rfl) rfl ?_
  refine OL.nil ?_
  refine EX.seq ?_
  refine CW.ret ?_
  exact EX.fin1 [] rfl rfl rfl ⟨rfl, rfl⟩

theorem abs_any (x : Nat) :
    FS Try.prog 54 [fl x] (nothing) [] (fun v H => v = fl (absB x) ∧ H = []) := by
  refine FS.intro (N := 7) Try.func54 rfl rfl rfl (fun F w0 hF => ?_)
  refine CW.seq ?_
  refine CW.region ?_
  refine OL.q (Y.assign rfl) rfl ?_
  refine OL.nil ?_
  refine EX.seq ?_
  refine CW.seq ?_
  refine CW.region ?_
  refine OL.q (Y.move rfl) rfl ?_
  refine OL.q (Y.ext Try.func51 XG51 XE51 rfl rfl (fun _ => rfl)) rfl ?_
  refine OL.q (Y.andNot rfl rfl) rfl ?_
  refine OL.q (Y.ext Try.func40 XG40 XE40 rfl rfl (fun _ => rfl)) rfl ?_
  refine OL.q (Y.assign rfl) rfl ?_
  refine OL.nil ?_
  refine EX.seq ?_
  refine CW.ret ?_
  exact EX.fin1 [] rfl rfl rfl ⟨rfl, rfl⟩

theorem isInf0_any (x : Nat) (h1 : x < 2 ^ 64) (h2 : nanD x = false) :
    FS Try.prog 45 [fl x, .int .i64 0] (nothing) [] (fun v H => v = .bool (infD x) ∧ H = []) := by
  refine FS.intro (N := 15) Try.func45 rfl rfl rfl (fun F w0 hF => ?_)
  refine CW.seq ?_
  refine CW.region ?_
  refine OL.q (Y.assign rfl) rfl ?_
  refine OL.nil ?_
  refine EX.seq ?_
  refine CW.seq ?_
  refine CW.seq ?_
  refine CW.region ?_
  refine OL.q (Y.move rfl) rfl ?_
  refine OL.q (Y.eql rfl rfl) rfl ?_
  refine OL.nil ?_
  refine EX.seq ?_
  refine CW.cond rfl (fun h0 => ?_) (fun h0 => ?_)
  rotate_left
  · repeat (first | replace h0 := yes h0 | replace h0 := no h0 | replace h0 := nyes h0 | replace h0 := nno h0)
    exfalso
    exact h0 rfl
  repeat (first | replace h0 := yes h0 | replace h0 := no h0 | replace h0 := nyes h0 | replace h0 := nno h0)
  refine CW.region ?_
  refine OL.q (Y.move rfl) rfl ?_
  refine OL.call [] (abs_any x) Try.call54 rfl rfl rfl rfl (Ent.nothing _) rfl ?_
  rintro _ _ ⟨rfl, rfl⟩
  refine ⟨rfl, rfl, ?_⟩
  refine OL.q (Y.assign rfl) rfl ?_
  refine OL.nil ?_
  refine EX.seq ?_
  refine CW.seq ?_
  refine CW.region ?_
  refine OL.q (Y.move rfl) rfl ?_
  refine OL.q (Y.gtrF rfl rfl) rfl ?_
  refine OL.q (Y.assign rfl) rfl ?_
  refine OL.nil ?_
  refine EX.seq ?_
  refine CW.ret ?_
  exact EX.fin1 [] rfl rfl rfl ⟨by rw [isInf0 h1 h2], rfl⟩

theorem isInf1_any (x : Nat) :
    FS Try.prog 45 [fl x, .int .i64 1] (nothing) [] (fun v H => v = .bool (decide (ford x maxF = some .gt)) ∧ H = []) := by
  refine FS.intro (N := 15) Try.func45 rfl rfl rfl (fun F w0 hF => ?_)
  refine CW.seq ?_
  refine CW.region ?_
  refine OL.q (Y.assign rfl) rfl ?_
  refine OL.nil ?_
  refine EX.seq ?_
  refine CW.seq ?_
  refine CW.seq ?_
  refine CW.region ?_
  refine OL.q (Y.move rfl) rfl ?_
  refine OL.q (Y.eql rfl rfl) rfl ?_
  refine OL.nil ?_
  refine EX.seq ?_
  refine CW.cond rfl (fun h0 => ?_) (fun h0 => ?_)
  · repeat (first | replace h0 := yes h0 | replace h0 := no h0 | replace h0 := nyes h0 | replace h0 := nno h0)
    exfalso
    cases h0
  repeat (first | replace h0 := yes h0 | replace h0 := no h0 | replace h0 := nyes h0 | replace h0 := nno h0)
  refine CW.seq ?_
  refine CW.region ?_
  refine OL.q (Y.move rfl) rfl ?_
  refine OL.q (Y.lss rfl rfl) rfl ?_
  refine OL.nil ?_
  refine EX.seq ?_
  refine CW.cond rfl (fun h1 => ?_) (fun h1 => ?_)
  · repeat (first | replace h1 := yes h1 | replace h1 := no h1 | replace h1 := nyes h1 | replace h1 := nno h1)
    exfalso
    omega
  repeat (first | replace h1 := yes h1 | replace h1 := no h1 | replace h1 := nyes h1 | replace h1 := nno h1)
  refine CW.skip ?_
  refine EX.seq ?_
  refine CW.seq ?_
  refine CW.region ?_
  refine OL.q (Y.move rfl) rfl ?_
  refine OL.q (Y.gtrF rfl rfl) rfl ?_
  refine OL.q (Y.assign rfl) rfl ?_
  refine OL.nil ?_
  refine EX.seq ?_
  refine CW.ret ?_
  exact EX.fin1 [] rfl rfl rfl ⟨rfl, rfl⟩

attribute [local irreducible] isNan in
theorem bits_any (x : Nat) :
    FS Try.prog 35 [fl x] (nothing) [] (fun v H => v = .int .u64 (if isNan x then (nan1 : Int) else (x : Int)) ∧ H = []) := by
  refine FS.intro (N := 7) Try.func35 rfl rfl rfl (fun F w0 hF => ?_)
  refine CW.seq ?_
  refine CW.region ?_
  refine OL.q (Y.assign rfl) rfl ?_
  refine OL.nil ?_
  refine EX.seq ?_
  refine CW.seq ?_
  refine CW.seq ?_
  refine CW.region ?_
  refine OL.q (Y.move rfl) rfl ?_
  refine OL.call [] (isNaN_any x) Try.call41 rfl rfl rfl rfl (Ent.nothing _) rfl ?_
  rintro _ _ ⟨rfl, rfl⟩
  refine ⟨rfl, rfl, ?_⟩
  refine OL.nil ?_
  refine EX.seq ?_
  refine CW.cond rfl (fun h0 => ?_) (fun h0 => ?_)
  · repeat (first | replace h0 := yes h0 | replace h0 := no h0 | replace h0 := nyes h0 | replace h0 := nno h0)
    refine CW.seq ?_
    refine CW.region ?_
    refine OL.q (Y.assign rfl) rfl ?_
    refine OL.nil ?_
    refine EX.seq ?_
    refine CW.ret ?_
    refine EX.retT ?_
    exact EX.fin1 [] rfl rfl rfl ⟨by simp [h0], rfl⟩
  · repeat (first | replace h0 := yes h0 | replace h0 := no h0 | replace h0 := nyes h0 | replace h0 := nno h0)
    refine CW.skip ?_
    refine EX.seq ?_
    refine CW.seq ?_
    refine CW.region ?_
    refine OL.q (Y.move rfl) rfl ?_
    refine OL.q (Y.ext Try.func51 XG51 XE51 rfl rfl (fun _ => rfl)) rfl ?_
    refine OL.q (Y.assign rfl) rfl ?_
    refine OL.nil ?_
    refine EX.seq ?_
    refine CW.ret ?_
    exact EX.fin1 [] rfl rfl rfl ⟨by simp [h0], rfl⟩


/-- What a lessening does in part. -/
def lessTo (xs : List Nat) (k : Nat) : List Nat := (xs.take k).map lessX ++ xs.drop k
theorem lessTo_zero (xs : List Nat) : lessTo xs 0 = xs := by simp [lessTo]
theorem lessTo_all {xs : List Nat} {k : Nat} (h : xs.length ≤ k) : lessTo xs k = xs.map lessX := by simp [lessTo, List.take_of_length_le h, h]
theorem lessTo_at {xs : List Nat} {k x : Nat} (h : xs[k]? = some x) : (lessTo xs k)[k]? = some x := by
  have hl := (List.getElem?_eq_some_iff.1 h).1
  unfold lessTo
  rw [List.getElem?_append_right (by simp; omega)]
  simp [Nat.min_eq_left (Nat.le_of_lt hl), h]
theorem lessTo_set {xs : List Nat} {k x : Nat} (h : xs[k]? = some x) : (lessTo xs k).set k (lessX x) = lessTo xs (k + 1) := by
  have hl := (List.getElem?_eq_some_iff.1 h).1
  unfold lessTo
  rw [List.set_append_right _ _ (by simp; omega), take_snoc h, List.drop_eq_getElem_cons hl]
  simp [Nat.min_eq_left (Nat.le_of_lt hl), (List.getElem?_eq_some_iff.1 h).2]
theorem set_same {α : Type _} {l : List α} {k : Nat} {x : α} (h : l[k]? = some x) : l.set k x = l := by
  obtain ⟨hl, rfl⟩ := List.getElem?_eq_some_iff.1 h
  exact List.set_getElem_self hl
theorem lessTo_skip {xs : List Nat} {k x : Nat} (h : xs[k]? = some x) (he : lessX x = x) : lessTo xs k = lessTo xs (k + 1) := by
  rw [← lessTo_set h, he]
  exact (set_same (lessTo_at h)).symm
theorem lessTo_len (xs : List Nat) (k : Nat) : (lessTo xs k).length = xs.length := by simp [lessTo]; omega
theorem set_flat {xs : List Nat} {k x y : Nat} : (xs.map flCells).set k ((flCells x).set 0 (fl y)) = (xs.set k y).map flCells := by rw [List.map_set]; rfl


theorem lessen_any (t : Nat) (a : Option Addr) (n c : Nat) (xs : List Nat) (st dc : Nat) (hn : xs.length = n) (hg : Good xs) (hsm : n ≤ 1000000) :
    FS Try.prog 46 [.pointer (some ⟨t, 0, none⟩)] (nothing) [blk t [.slice a n c, fl st, fl dc] 79, row a n c 48 1 ((xs).map flCells)] (fun r H => r = .tuple #[] ∧ ∃ s, opR (arith .mul st lessC) s ∧ H = [blk t [.slice a n c, fl s, fl dc] 79, row a n c 48 1 ((xs.map lessX).map flCells)]) := by
  refine FS.intro (N := 34) Try.func46 rfl rfl rfl (fun F w0 hF => ?_)
  refine CW.seq ?_
  refine CW.seq ?_
  refine CW.region ?_
  refine OL.q (Y.move rfl) rfl ?_
  refine OL.q (Y.nilCheck rfl) rfl ?_
  refine OL.q (Y.field L79_0 rfl) rfl ?_
  first | refine OL.q (Y.load T61 rfl (Ent.at 0 rfl (Up.cellIs _ _ _) (blk_cell rfl))) rfl ?_ | refine OL.q (Y.load T61 rfl (Ent.at 1 rfl (Up.cellIs _ _ _) (blk_cell rfl))) rfl ?_ | refine OL.q (Y.load T61 rfl (Ent.at 2 rfl (Up.cellIs _ _ _) (blk_cell rfl))) rfl ?_ | refine OL.q (Y.load T61 rfl (Ent.at 3 rfl (Up.cellIs _ _ _) (blk_cell rfl))) rfl ?_ | refine OL.q (Y.load T61 rfl (Ent.at 4 rfl (Up.cellIs _ _ _) (blk_cell rfl))) rfl ?_ | refine OL.q (Y.load T61 rfl (Ent.at 5 rfl (Up.cellIs _ _ _) (blk_cell rfl))) rfl ?_
  refine OL.q (Y.lenSl Try.underlying61 rfl) rfl ?_
  refine OL.q (Y.move rfl) rfl ?_
  refine OL.nil ?_
  refine EX.seq ?_
  refine CW.block ?_
  refine CW.loop (α := Nat) ⟨fun k => k ≤ n, fun k => [(0, .pointer (some ⟨t, 0, none⟩)), (7, .slice a n c), (8, .int .i64 n), (9, .int .i64 k)], fun k => [blk t [.slice a n c, fl st, fl dc] 79, row a n c 48 1 ((lessTo xs k).map flCells)]⟩
    (fun k => n - k) 0 [0, 1] (Nat.zero_le _) ⟨rfl, rfl, rfl, rfl, trivial⟩ rfl (by show [_, _] = [_, _]; rw [lessTo_zero]) ?_
  intro k hk
  dsimp only at hk ⊢
  refine CW.seq ?_
  refine CW.region ?_
  refine OL.q (Y.lss rfl rfl) rfl ?_
  refine OL.nil ?_
  refine EX.seq ?_
  refine CW.seq ?_
  refine CW.cond rfl (fun h0 => ?_) (fun h0 => ?_)
  · repeat (first | replace h0 := yes h0 | replace h0 := no h0 | replace h0 := nyes h0 | replace h0 := nno h0)
    obtain ⟨x, hx⟩ : ∃ p, xs[k]? = some p := ⟨_, List.getElem?_eq_getElem (by omega)⟩
    have hgx := hg x (mem_of hx)
    have hy := mget flCells (lessTo_at hx)
    refine CW.skip ?_
    refine EX.seq ?_
    refine CW.seq ?_
    refine CW.block ?_
    refine CW.seq ?_
    refine CW.region ?_
    refine OL.q (Y.move rfl) rfl ?_
    refine OL.q (Y.index (k := k) Try.underlying61 C48 rfl rfl (Ent.at 1 rfl (Up.rd _ _ _ _) row_rd) rfl (by omega)) rfl ?_
    refine OL.q (Y.load T48 rfl (cellsIs_at0 (rd_at (Ent.at 1 rfl (Up.rd _ _ _ _) row_rd) hy) rfl)) rfl ?_
    refine OL.q (Y.assign rfl) rfl ?_
    refine OL.q (Y.assign rfl) rfl ?_
    refine OL.nil ?_
    refine EX.seq ?_
    refine CW.seq ?_
    refine CW.region ?_
    refine OL.q (Y.move rfl) rfl ?_
    refine OL.call [] (isInf0_any x hgx.1 hgx.2.1) Try.call45 rfl rfl rfl rfl (Ent.nothing _) rfl ?_
    rintro _ _ ⟨rfl, rfl⟩
    refine ⟨rfl, rfl, ?_⟩
    refine OL.q (Y.not rfl) rfl ?_
    refine OL.nil ?_
    refine EX.seq ?_
    refine CW.cond rfl (fun h1 => ?_) (fun h1 => ?_)
    · repeat (first | replace h1 := yes h1 | replace h1 := no h1 | replace h1 := nyes h1 | replace h1 := nno h1)
      refine CW.drawn [(true, 0), (true, 1), (true, 2), (true, 3), (true, 4), (true, 5), (false, 6), (false, 7)] [8, 9] [0] mixed (by kernel_rfl) (by repeat (first | exact PanicOk.body | refine PanicOk.then ?_ | refine PanicOk.block ?_)) (by kernel_rfl) rfl rfl rfl rfl ?_
      refine OL.qt (Y.move rfl) rfl ?_
      refine OL.qt (Y.nilCheck rfl) rfl ?_
      refine OL.qt (Y.field L79_0 rfl) rfl ?_
      first | refine OL.qt (Y.load T61 rfl (Ent.at 0 rfl (Up.cellIs _ _ _) (blk_cell rfl))) rfl ?_ | refine OL.qt (Y.load T61 rfl (Ent.at 1 rfl (Up.cellIs _ _ _) (blk_cell rfl))) rfl ?_ | refine OL.qt (Y.load T61 rfl (Ent.at 2 rfl (Up.cellIs _ _ _) (blk_cell rfl))) rfl ?_ | refine OL.qt (Y.load T61 rfl (Ent.at 3 rfl (Up.cellIs _ _ _) (blk_cell rfl))) rfl ?_ | refine OL.qt (Y.load T61 rfl (Ent.at 4 rfl (Up.cellIs _ _ _) (blk_cell rfl))) rfl ?_ | refine OL.qt (Y.load T61 rfl (Ent.at 5 rfl (Up.cellIs _ _ _) (blk_cell rfl))) rfl ?_
      refine OL.qt (Y.move rfl) rfl ?_
      refine OL.qt (Y.move rfl) rfl ?_
      refine OL.arith (by simp) rfl rfl rfl (fun r23 q23 => ⟨rfl, rfl, ?_⟩)
      refine OL.call [] (kept_any r23) Try.call39 rfl rfl rfl rfl (Ent.nothing _) rfl ?_
      rintro _ _ ⟨rfl, rfl⟩
      refine ⟨rfl, rfl, ?_⟩
      refine OL.nil ?_
      refine EX.tail ?_
      refine OL.q (Y.index (k := k) Try.underlying61 C48 rfl rfl (Ent.at 1 rfl (Up.rd _ _ _ _) row_rd) rfl (by omega)) rfl ?_
      refine OL.storeRow (k := k) (j := 0) 1 rfl C48 rfl rfl (by omega) rfl rfl rfl hy (by simp [flCells]) ⟨rfl, rfl, ?_⟩
      refine OL.nil ?_
      refine EX.norB ?_
      refine EX.seq ?_
      refine CW.region ?_
      first | refine OL.q (Y.add1 rfl rfl rfl (by omega)) rfl ?_ | refine OL.q (Y.addN rfl rfl (by omega)) rfl ?_ | refine OL.q (Y.add rfl rfl (by omega)) rfl ?_
      refine OL.q (Y.move rfl) rfl ?_
      refine OL.nil ?_
      have e9 : keptF r23 = lessX x := by rw [opR_kept q23, lessX, if_neg (by simp [h1])]
      exact EX.next (k + 1) [0, 1] (show k + 1 ≤ n by omega) (show n - (k + 1) < n - k by omega) ⟨rfl, rfl, rfl, rfl, trivial⟩ rfl (by show [_, _] = [_, _]; rw [← lessTo_set hx, ← set_flat, e9])
    · repeat (first | replace h1 := yes h1 | replace h1 := no h1 | replace h1 := nyes h1 | replace h1 := nno h1)
      refine CW.skip ?_
      refine EX.norB ?_
      refine EX.seq ?_
      refine CW.region ?_
      first | refine OL.q (Y.add1 rfl rfl rfl (by omega)) rfl ?_ | refine OL.q (Y.addN rfl rfl (by omega)) rfl ?_ | refine OL.q (Y.add rfl rfl (by omega)) rfl ?_
      refine OL.q (Y.move rfl) rfl ?_
      refine OL.nil ?_
      exact EX.next (k + 1) [0, 1] (show k + 1 ≤ n by omega) (show n - (k + 1) < n - k by omega) ⟨rfl, rfl, rfl, rfl, trivial⟩ rfl (by show [_, _] = [_, _]; rw [← lessTo_skip hx (by rw [lessX, if_pos h1])])
  · repeat (first | replace h0 := yes h0 | replace h0 := no h0 | replace h0 := nyes h0 | replace h0 := nno h0)
    refine CW.exit ?_
    refine EX.exitT ?_
    refine EX.exitT ?_
    refine EX.exitB ?_
    refine EX.seq ?_
    refine CW.region ?_
    refine OL.q (Y.move rfl) rfl ?_
    refine OL.q (Y.nilCheck rfl) rfl ?_
    refine OL.q (Y.field L79_1 rfl) rfl ?_
    first | refine OL.q (Y.load T48 rfl (Ent.at 0 rfl (Up.cellIs _ _ _) (blk_cell rfl))) rfl ?_ | refine OL.q (Y.load T48 rfl (Ent.at 1 rfl (Up.cellIs _ _ _) (blk_cell rfl))) rfl ?_ | refine OL.q (Y.load T48 rfl (Ent.at 2 rfl (Up.cellIs _ _ _) (blk_cell rfl))) rfl ?_ | refine OL.q (Y.load T48 rfl (Ent.at 3 rfl (Up.cellIs _ _ _) (blk_cell rfl))) rfl ?_ | refine OL.q (Y.load T48 rfl (Ent.at 4 rfl (Up.cellIs _ _ _) (blk_cell rfl))) rfl ?_ | refine OL.q (Y.load T48 rfl (Ent.at 5 rfl (Up.cellIs _ _ _) (blk_cell rfl))) rfl ?_
    refine OL.arith (by simp) rfl rfl rfl (fun r31 q31 => ⟨rfl, rfl, ?_⟩)
    refine OL.q (Y.nilCheck rfl) rfl ?_
    refine OL.q (Y.field L79_1 rfl) rfl ?_
    first | refine OL.store 0 rfl C48 rfl rfl rfl rfl rfl ⟨rfl, rfl, ?_⟩ | refine OL.store 1 rfl C48 rfl rfl rfl rfl rfl ⟨rfl, rfl, ?_⟩ | refine OL.store 2 rfl C48 rfl rfl rfl rfl rfl ⟨rfl, rfl, ?_⟩ | refine OL.store 3 rfl C48 rfl rfl rfl rfl rfl ⟨rfl, rfl, ?_⟩ | refine OL.store 4 rfl C48 rfl rfl rfl rfl rfl ⟨rfl, rfl, ?_⟩ | refine OL.store 5 rfl C48 rfl rfl rfl rfl rfl ⟨rfl, rfl, ?_⟩
    refine OL.nil ?_
    have hkn : k = n := by omega
    subst hkn
    rw [lessTo_all (by omega)]
    exact EX.fin0 (.inr rfl) [0, 1] rfl rfl ⟨rfl, r31, q31, rfl⟩


/-- What the step comes to. -/
def stepR (b : Bool) (st s : Nat) : Prop := if b then opR (arith .mul st lessC) s else s = st
def bumpV (xs : List Nat) (k st : Nat) : Nat := keptO (arith .add (xs.getD k 0) st)
def bumpB (xs : List Nat) (k st : Nat) : Bool := highF (bumpV xs k st) && !infD (bumpV xs k st)
def bumpX (xs : List Nat) (k st : Nat) : List Nat := if bumpB xs k st then (xs.set k (bumpV xs k st)).map lessX else xs.set k (bumpV xs k st)
theorem bump_good {xs : List Nat} (h : Good xs) (k st : Nat) : Good (bumpX xs k st) := by
  unfold bumpX
  split
  · exact good_map (good_set h k keptO_good)
  · exact good_set h k keptO_good
theorem bump_len (xs : List Nat) (k st : Nat) : (bumpX xs k st).length = xs.length := by unfold bumpX; split <;> simp
def fadeR (st dc : Nat) (xs xs' : List Nat) (s : Nat) : Prop := ∃ s1, opR (arith .quo st dc) s1 ∧ xs' = (if highF s1 then xs.map lessX else xs) ∧ stepR (highF s1) s1 s
theorem getD_at {xs : List Nat} {k x : Nat} (h : xs[k]? = some x) : xs.getD k 0 = x := by simp [List.getD_eq_getElem?_getD, h]
theorem isInf1_high (x : Nat) (h1 : nanD x = false) (h2 : highF x = true) : FS Try.prog 45 [fl x, .int .i64 1] nothing [] (fun v H => v = .bool (infD x) ∧ H = []) := by
  have := isInf1_any x
  rwa [high_inf h1 h2] at this
attribute [local irreducible] isNan below0 keptF lessF highF infD keptO


theorem bump_no (t : Nat) (a : Option Addr) (n c : Nat) (xs : List Nat) (st dc : Nat) (v : Int) (hn : xs.length = n) (hv : ¬ okV n v) :
    FS Try.prog 27 [.pointer (some ⟨t, 0, none⟩), .int .i64 v] (nothing) [blk t [.slice a n c, fl st, fl dc] 79, row a n c 48 1 ((xs).map flCells)] (fun r H => r = .bool false ∧ H = [blk t [.slice a n c, fl st, fl dc] 79, row a n c 48 1 ((xs).map flCells)]) := by
  refine FS.intro (N := 39) Try.func27 rfl rfl rfl (fun F w0 hF => ?_)
  refine CW.seq ?_
  refine CW.region ?_
  refine OL.q (Y.assign rfl) rfl ?_
  refine OL.nil ?_
  refine EX.seq ?_
  refine CW.seq ?_
  refine CW.seq ?_
  refine CW.region ?_
  refine OL.q (Y.move rfl) rfl ?_
  refine OL.q (Y.move rfl) rfl ?_
  refine OL.call [0, 1] (has_any t a n c xs st dc v hn) Try.call38 rfl rfl rfl rfl (Ent.nothing _) rfl ?_
  rintro _ _ ⟨rfl, rfl⟩
  refine ⟨rfl, rfl, ?_⟩
  refine OL.q (Y.not rfl) rfl ?_
  refine OL.nil ?_
  refine EX.seq ?_
  refine CW.cond rfl (fun h0 => ?_) (fun h0 => ?_)
  rotate_left
  · repeat (first | replace h0 := yes h0 | replace h0 := no h0 | replace h0 := nyes h0 | replace h0 := nno h0)
    exfalso
    exact hv h0
  repeat (first | replace h0 := yes h0 | replace h0 := no h0 | replace h0 := nyes h0 | replace h0 := nno h0)
  refine CW.seq ?_
  refine CW.region ?_
  refine OL.q (Y.assign rfl) rfl ?_
  refine OL.nil ?_
  refine EX.seq ?_
  refine CW.ret ?_
  refine EX.retT ?_
  exact EX.fin1 [0, 1] rfl rfl rfl ⟨rfl, rfl⟩

theorem bump_ok (t : Nat) (a : Option Addr) (n c : Nat) (xs : List Nat) (st dc : Nat) (k : Nat) (hn : xs.length = n) (hk : k < n) (hg : Good xs) (hsm : n ≤ 1000000) :
    FS Try.prog 27 [.pointer (some ⟨t, 0, none⟩), .int .i64 k] (nothing) [blk t [.slice a n c, fl st, fl dc] 79, row a n c 48 1 ((xs).map flCells)] (fun r H => r = .bool true ∧ ∃ s, stepR (bumpB xs k st) st s ∧ H = [blk t [.slice a n c, fl s, fl dc] 79, row a n c 48 1 ((bumpX xs k st).map flCells)]) := by
  refine FS.intro (N := 39) Try.func27 rfl rfl rfl (fun F w0 hF => ?_)
  obtain ⟨x, hx⟩ : ∃ p, xs[k]? = some p := ⟨_, List.getElem?_eq_getElem (by omega)⟩
  have hy := mget flCells hx
  have hok : okV n (k : Int) := ⟨by omega, by omega⟩
  refine CW.seq ?_
  refine CW.region ?_
  refine OL.q (Y.assign rfl) rfl ?_
  refine OL.nil ?_
  refine EX.seq ?_
  refine CW.seq ?_
  refine CW.seq ?_
  refine CW.region ?_
  refine OL.q (Y.move rfl) rfl ?_
  refine OL.q (Y.move rfl) rfl ?_
  refine OL.call [0, 1] (has_any t a n c xs st dc k hn) Try.call38 rfl rfl rfl rfl (Ent.nothing _) rfl ?_
  rintro _ _ ⟨rfl, rfl⟩
  refine ⟨rfl, rfl, ?_⟩
  refine OL.q (Y.not rfl) rfl ?_
  refine OL.nil ?_
  refine EX.seq ?_
  refine CW.cond rfl (fun h0 => ?_) (fun h0 => ?_)
  · repeat (first | replace h0 := yes h0 | replace h0 := no h0 | replace h0 := nyes h0 | replace h0 := nno h0)
    exfalso
    exact h0 hok
  repeat (first | replace h0 := yes h0 | replace h0 := no h0 | replace h0 := nyes h0 | replace h0 := nno h0)
  refine CW.skip ?_
  refine EX.seq ?_
  refine CW.seq ?_
  refine CW.drawn [(true, 0), (true, 1), (true, 2), (true, 3), (true, 4), (true, 5), (true, 6), (true, 7), (true, 8), (true, 9), (true, 10), (false, 11), (false, 12)] [13] [0, 1] mixed (by kernel_rfl) (by repeat (first | exact PanicOk.body | refine PanicOk.then ?_ | refine PanicOk.block ?_)) (by kernel_rfl) rfl rfl rfl rfl ?_
  refine OL.qt (Y.move rfl) rfl ?_
  refine OL.qt (Y.nilCheck rfl) rfl ?_
  refine OL.qt (Y.field L79_0 rfl) rfl ?_
  first | refine OL.qt (Y.load T61 rfl (Ent.at 0 rfl (Up.cellIs _ _ _) (blk_cell rfl))) rfl ?_ | refine OL.qt (Y.load T61 rfl (Ent.at 1 rfl (Up.cellIs _ _ _) (blk_cell rfl))) rfl ?_ | refine OL.qt (Y.load T61 rfl (Ent.at 2 rfl (Up.cellIs _ _ _) (blk_cell rfl))) rfl ?_ | refine OL.qt (Y.load T61 rfl (Ent.at 3 rfl (Up.cellIs _ _ _) (blk_cell rfl))) rfl ?_ | refine OL.qt (Y.load T61 rfl (Ent.at 4 rfl (Up.cellIs _ _ _) (blk_cell rfl))) rfl ?_ | refine OL.qt (Y.load T61 rfl (Ent.at 5 rfl (Up.cellIs _ _ _) (blk_cell rfl))) rfl ?_
  refine OL.qt (Y.move rfl) rfl ?_
  refine OL.qt (Y.index (k := k) Try.underlying61 C48 rfl rfl (Ent.at 1 rfl (Up.rd _ _ _ _) row_rd) rfl (by omega)) rfl ?_
  refine OL.qt (Y.load T48 rfl (cellsIs_at0 (rd_at (Ent.at 1 rfl (Up.rd _ _ _ _) row_rd) hy) rfl)) rfl ?_
  refine OL.qt (Y.move rfl) rfl ?_
  refine OL.qt (Y.nilCheck rfl) rfl ?_
  refine OL.qt (Y.field L79_1 rfl) rfl ?_
  first | refine OL.qt (Y.load T48 rfl (Ent.at 0 rfl (Up.cellIs _ _ _) (blk_cell rfl))) rfl ?_ | refine OL.qt (Y.load T48 rfl (Ent.at 1 rfl (Up.cellIs _ _ _) (blk_cell rfl))) rfl ?_ | refine OL.qt (Y.load T48 rfl (Ent.at 2 rfl (Up.cellIs _ _ _) (blk_cell rfl))) rfl ?_ | refine OL.qt (Y.load T48 rfl (Ent.at 3 rfl (Up.cellIs _ _ _) (blk_cell rfl))) rfl ?_ | refine OL.qt (Y.load T48 rfl (Ent.at 4 rfl (Up.cellIs _ _ _) (blk_cell rfl))) rfl ?_ | refine OL.qt (Y.load T48 rfl (Ent.at 5 rfl (Up.cellIs _ _ _) (blk_cell rfl))) rfl ?_
  refine OL.arith (by simp) rfl rfl rfl (fun r21 q21 => ⟨rfl, rfl, ?_⟩)
  refine OL.call [] (kept_any r21) Try.call39 rfl rfl rfl rfl (Ent.nothing _) rfl ?_
  rintro _ _ ⟨rfl, rfl⟩
  refine ⟨rfl, rfl, ?_⟩
  refine OL.nil ?_
  refine EX.tail ?_
  refine OL.q (Y.assign rfl) rfl ?_
  refine OL.nil ?_
  refine EX.seq ?_
  refine CW.seq ?_
  refine CW.region ?_
  refine OL.q (Y.move rfl) rfl ?_
  refine OL.q (Y.nilCheck rfl) rfl ?_
  refine OL.q (Y.field L79_0 rfl) rfl ?_
  first | refine OL.q (Y.load T61 rfl (Ent.at 0 rfl (Up.cellIs _ _ _) (blk_cell rfl))) rfl ?_ | refine OL.q (Y.load T61 rfl (Ent.at 1 rfl (Up.cellIs _ _ _) (blk_cell rfl))) rfl ?_ | refine OL.q (Y.load T61 rfl (Ent.at 2 rfl (Up.cellIs _ _ _) (blk_cell rfl))) rfl ?_ | refine OL.q (Y.load T61 rfl (Ent.at 3 rfl (Up.cellIs _ _ _) (blk_cell rfl))) rfl ?_ | refine OL.q (Y.load T61 rfl (Ent.at 4 rfl (Up.cellIs _ _ _) (blk_cell rfl))) rfl ?_ | refine OL.q (Y.load T61 rfl (Ent.at 5 rfl (Up.cellIs _ _ _) (blk_cell rfl))) rfl ?_
  refine OL.q (Y.move rfl) rfl ?_
  refine OL.q (Y.move rfl) rfl ?_
  refine OL.q (Y.index (k := k) Try.underlying61 C48 rfl rfl (Ent.at 1 rfl (Up.rd _ _ _ _) row_rd) rfl (by omega)) rfl ?_
  refine OL.storeRow (k := k) (j := 0) 1 rfl C48 rfl rfl (by omega) rfl rfl rfl hy (by simp [flCells]) ⟨rfl, rfl, ?_⟩
  refine OL.nil ?_
  refine EX.seq ?_
  refine CW.seq ?_
  refine CW.seq ?_
  have e9 : keptF r21 = bumpV xs k st := by rw [opR_kept q21, bumpV, getD_at hx]
  have gv : Good1 (bumpV xs k st) := keptO_good
  have hg2 := good_set hg k gv
  rw [e9, set_flat]
  generalize hb : bumpV xs k st = b at *
  refine CW.region ?_
  refine OL.q (Y.move rfl) rfl ?_
  refine OL.call [] (high_any b) Try.call44 rfl rfl rfl rfl (Ent.nothing _) rfl ?_
  rintro _ _ ⟨rfl, rfl⟩
  refine ⟨rfl, rfl, ?_⟩
  refine OL.q (Y.move rfl) rfl ?_
  refine OL.guard (s := 32) rfl (fun g5_2 => ?_) (fun g5_2 => ?_)
  · have ng5_2 := g5_2
    repeat (first | replace ng5_2 := yes ng5_2 | replace ng5_2 := no ng5_2 | replace ng5_2 := nyes ng5_2 | replace ng5_2 := nno ng5_2)
    refine OL.on g5_2 rfl rfl ?_
    refine OL.q (Y.move rfl) rfl ?_
    refine OL.on g5_2 rfl rfl ?_
    refine OL.call [] (isInf1_high b gv.2.1 g5_2) Try.call45 rfl rfl rfl rfl (Ent.nothing _) rfl ?_
    rintro _ _ ⟨rfl, rfl⟩
    refine ⟨rfl, rfl, ?_⟩
    refine OL.on g5_2 rfl rfl ?_
    refine OL.q (Y.not rfl) rfl ?_
    refine OL.q (Y.pickT rfl g5_2 rfl) rfl ?_
    refine OL.nil ?_
    refine EX.seq ?_
    refine CW.cond rfl (fun h1 => ?_) (fun h1 => ?_)
    · repeat (first | replace h1 := yes h1 | replace h1 := no h1 | replace h1 := nyes h1 | replace h1 := nno h1)
      refine CW.region ?_
      refine OL.q (Y.move rfl) rfl ?_
      refine OL.call [0, 1] (lessen_any t a n c _ _ dc (by simpa using hn) hg2 hsm) Try.call46 rfl rfl rfl rfl (Ent.nothing _) rfl ?_
      rintro _ _ ⟨rfl, s2, q2, rfl⟩
      refine ⟨rfl, rfl, ?_⟩
      refine OL.nil ?_
      refine EX.seq ?_
      refine CW.seq ?_
      refine CW.region ?_
      refine OL.q (Y.assign rfl) rfl ?_
      refine OL.nil ?_
      refine EX.seq ?_
      refine CW.ret ?_
      have hbb : bumpB xs k st = true := by unfold bumpB; rw [hb, g5_2, h1]; rfl
      exact EX.fin1 [0, 1] rfl rfl rfl ⟨rfl, s2, by unfold stepR; rw [hbb]; exact q2, by unfold bumpX; rw [hbb, hb]; rfl⟩
    · repeat (first | replace h1 := yes h1 | replace h1 := no h1 | replace h1 := nyes h1 | replace h1 := nno h1)
      refine CW.skip ?_
      refine EX.seq ?_
      refine CW.seq ?_
      refine CW.region ?_
      refine OL.q (Y.assign rfl) rfl ?_
      refine OL.nil ?_
      refine EX.seq ?_
      refine CW.ret ?_
      have hbb : bumpB xs k st = false := by unfold bumpB; rw [hb, g5_2, h1]; rfl
      exact EX.fin1 [0, 1] rfl rfl rfl ⟨rfl, st, by unfold stepR; rw [hbb]; rfl, by unfold bumpX; rw [hbb, hb]; rfl⟩
  · have ng5_2 := g5_2
    repeat (first | replace ng5_2 := yes ng5_2 | replace ng5_2 := no ng5_2 | replace ng5_2 := nyes ng5_2 | replace ng5_2 := nno ng5_2)
    refine OL.no g5_2 rfl rfl rfl ?_
    refine OL.no g5_2 rfl rfl rfl ?_
    refine OL.no g5_2 rfl rfl rfl ?_
    refine OL.q (Y.pickF rfl g5_2 rfl) rfl ?_
    refine OL.nil ?_
    refine EX.seq ?_
    refine CW.cond rfl (fun h1 => ?_) (fun h1 => ?_)
    · repeat (first | replace h1 := yes h1 | replace h1 := no h1 | replace h1 := nyes h1 | replace h1 := nno h1)
      exfalso
      contradiction
    repeat (first | replace h1 := yes h1 | replace h1 := no h1 | replace h1 := nyes h1 | replace h1 := nno h1)
    refine CW.skip ?_
    refine EX.seq ?_
    refine CW.seq ?_
    refine CW.region ?_
    refine OL.q (Y.assign rfl) rfl ?_
    refine OL.nil ?_
    refine EX.seq ?_
    refine CW.ret ?_
    have hbb : bumpB xs k st = false := by unfold bumpB; rw [hb, g5_2]; rfl
    exact EX.fin1 [0, 1] rfl rfl rfl ⟨rfl, st, by unfold stepR; rw [hbb]; rfl, by unfold bumpX; rw [hbb, hb]; rfl⟩

theorem fade_any (t : Nat) (a : Option Addr) (n c : Nat) (xs : List Nat) (st dc : Nat) (hn : xs.length = n) (hg : Good xs) (hsm : n ≤ 1000000) :
    FS Try.prog 29 [.pointer (some ⟨t, 0, none⟩)] (nothing) [blk t [.slice a n c, fl st, fl dc] 79, row a n c 48 1 ((xs).map flCells)] (fun r H => r = .tuple #[] ∧ ∃ s xs2, fadeR st dc xs xs2 s ∧ H = [blk t [.slice a n c, fl s, fl dc] 79, row a n c 48 1 ((xs2).map flCells)]) := by
  refine FS.intro (N := 20) Try.func29 rfl rfl rfl (fun F w0 hF => ?_)
  refine CW.seq ?_
  refine CW.drawn [(true, 0), (true, 1), (true, 2), (true, 3), (true, 4), (true, 5), (true, 6), (true, 7), (false, 8)] [9, 10, 11] [0, 1] mixed (by kernel_rfl) (by repeat (first | exact PanicOk.body | refine PanicOk.then ?_ | refine PanicOk.block ?_)) (by kernel_rfl) rfl rfl rfl rfl ?_
  refine OL.qt (Y.move rfl) rfl ?_
  refine OL.qt (Y.nilCheck rfl) rfl ?_
  refine OL.qt (Y.field L79_1 rfl) rfl ?_
  first | refine OL.qt (Y.load T48 rfl (Ent.at 0 rfl (Up.cellIs _ _ _) (blk_cell rfl))) rfl ?_ | refine OL.qt (Y.load T48 rfl (Ent.at 1 rfl (Up.cellIs _ _ _) (blk_cell rfl))) rfl ?_ | refine OL.qt (Y.load T48 rfl (Ent.at 2 rfl (Up.cellIs _ _ _) (blk_cell rfl))) rfl ?_ | refine OL.qt (Y.load T48 rfl (Ent.at 3 rfl (Up.cellIs _ _ _) (blk_cell rfl))) rfl ?_ | refine OL.qt (Y.load T48 rfl (Ent.at 4 rfl (Up.cellIs _ _ _) (blk_cell rfl))) rfl ?_ | refine OL.qt (Y.load T48 rfl (Ent.at 5 rfl (Up.cellIs _ _ _) (blk_cell rfl))) rfl ?_
  refine OL.qt (Y.move rfl) rfl ?_
  refine OL.qt (Y.nilCheck rfl) rfl ?_
  refine OL.qt (Y.field L79_2 rfl) rfl ?_
  first | refine OL.qt (Y.load T48 rfl (Ent.at 0 rfl (Up.cellIs _ _ _) (blk_cell rfl))) rfl ?_ | refine OL.qt (Y.load T48 rfl (Ent.at 1 rfl (Up.cellIs _ _ _) (blk_cell rfl))) rfl ?_ | refine OL.qt (Y.load T48 rfl (Ent.at 2 rfl (Up.cellIs _ _ _) (blk_cell rfl))) rfl ?_ | refine OL.qt (Y.load T48 rfl (Ent.at 3 rfl (Up.cellIs _ _ _) (blk_cell rfl))) rfl ?_ | refine OL.qt (Y.load T48 rfl (Ent.at 4 rfl (Up.cellIs _ _ _) (blk_cell rfl))) rfl ?_ | refine OL.qt (Y.load T48 rfl (Ent.at 5 rfl (Up.cellIs _ _ _) (blk_cell rfl))) rfl ?_
  refine OL.arith (by simp) rfl rfl rfl (fun r10 q10 => ⟨rfl, rfl, ?_⟩)
  refine OL.nil ?_
  refine EX.tail ?_
  refine OL.q (Y.nilCheck rfl) rfl ?_
  refine OL.q (Y.field L79_1 rfl) rfl ?_
  first | refine OL.store 0 rfl C48 rfl rfl rfl rfl rfl ⟨rfl, rfl, ?_⟩ | refine OL.store 1 rfl C48 rfl rfl rfl rfl rfl ⟨rfl, rfl, ?_⟩ | refine OL.store 2 rfl C48 rfl rfl rfl rfl rfl ⟨rfl, rfl, ?_⟩ | refine OL.store 3 rfl C48 rfl rfl rfl rfl rfl ⟨rfl, rfl, ?_⟩ | refine OL.store 4 rfl C48 rfl rfl rfl rfl rfl ⟨rfl, rfl, ?_⟩ | refine OL.store 5 rfl C48 rfl rfl rfl rfl rfl ⟨rfl, rfl, ?_⟩
  refine OL.nil ?_
  refine EX.seq ?_
  refine CW.seq ?_
  refine CW.region ?_
  refine OL.q (Y.move rfl) rfl ?_
  refine OL.q (Y.nilCheck rfl) rfl ?_
  refine OL.q (Y.field L79_1 rfl) rfl ?_
  first | refine OL.q (Y.load T48 rfl (Ent.at 0 rfl (Up.cellIs _ _ _) (blk_cell rfl))) rfl ?_ | refine OL.q (Y.load T48 rfl (Ent.at 1 rfl (Up.cellIs _ _ _) (blk_cell rfl))) rfl ?_ | refine OL.q (Y.load T48 rfl (Ent.at 2 rfl (Up.cellIs _ _ _) (blk_cell rfl))) rfl ?_ | refine OL.q (Y.load T48 rfl (Ent.at 3 rfl (Up.cellIs _ _ _) (blk_cell rfl))) rfl ?_ | refine OL.q (Y.load T48 rfl (Ent.at 4 rfl (Up.cellIs _ _ _) (blk_cell rfl))) rfl ?_ | refine OL.q (Y.load T48 rfl (Ent.at 5 rfl (Up.cellIs _ _ _) (blk_cell rfl))) rfl ?_
  refine OL.call [] (high_any r10) Try.call44 rfl rfl rfl rfl (Ent.nothing _) rfl ?_
  rintro _ _ ⟨rfl, rfl⟩
  refine ⟨rfl, rfl, ?_⟩
  refine OL.nil ?_
  refine EX.seq ?_
  refine CW.cond rfl (fun h0 => ?_) (fun h0 => ?_)
  · repeat (first | replace h0 := yes h0 | replace h0 := no h0 | replace h0 := nyes h0 | replace h0 := nno h0)
    have hg2 := hg
    refine CW.region ?_
    refine OL.q (Y.move rfl) rfl ?_
    refine OL.call [0, 1] (lessen_any t a n c _ _ dc (by simpa using hn) hg2 hsm) Try.call46 rfl rfl rfl rfl (Ent.nothing _) rfl ?_
    rintro _ _ ⟨rfl, s2, q2, rfl⟩
    refine ⟨rfl, rfl, ?_⟩
    refine OL.nil ?_
    exact EX.fin0 (.inr rfl) [0, 1] rfl rfl ⟨rfl, s2, xs.map lessX, ⟨r10, q10, by rw [h0]; rfl, by unfold stepR; rw [h0]; exact q2⟩, rfl⟩
  · repeat (first | replace h0 := yes h0 | replace h0 := no h0 | replace h0 := nyes h0 | replace h0 := nno h0)
    refine CW.skip ?_
    exact EX.fin0 (.inr rfl) [0, 1] rfl rfl ⟨rfl, r10, xs, ⟨r10, q10, by rw [h0]; rfl, by unfold stepR; rw [h0]; rfl⟩, rfl⟩
end Go.Proofs.Ythnejajlkijobaa
