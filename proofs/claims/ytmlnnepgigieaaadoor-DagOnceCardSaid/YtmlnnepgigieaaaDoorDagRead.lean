/- From the form's readings to acts, rows of numbers, and the table of the powers of ten. -/
import Derived.Test.YtmlnnepgigieaaaDoorRows
import Derived.Test.YtmlnnepgigieaaaDoorDlaw
import Derived.Test.YtmlnnepgigieaaaDoorRead
import Derived.OpenShut
import Derived.LaidMore
import Derived.Lib.LaidTab
import Derived.Stop.Joined
namespace Go.Proofs.YtmlnnepgigieaaaDoor
open Go.Sx Go.ChangeShapes Go.WideShapes Go.ChangeAt Go.RowKit




theorem gPow : Tryd.prog.globalNamed "internal/strconv.uint64pow10" = some 0 := by kernel_rfl
theorem tPow : (Tryd.prog.globals[0]?).map (·.type) = some 168 := by kernel_rfl
theorem tab_of {W : World} {laid : List (String × DataW Unit)} (hl : laid = [("math/bits.deBruijn32tab", Rows.laid_math_bits_deBruijn32tab), ("math/bits.deBruijn64tab", Rows.laid_math_bits_deBruijn64tab), ("internal/strconv.uint64pow10", Rows.laid_internal_strconv_uint64pow10)]) (h : laidMetH Tryd.prog laid W) : tabP (hp W) := by
  subst hl
  rw [MakeChecks.laidMetH_plain _ _ _ (by kernel_rfl)] at h
  obtain ⟨ps, ⟨g0, t0, cs0, f0, p0, q0, hg0, ht0, hv0, hd0, ⟨g1, t1, cs1, f1, p1, q1, hg1, ht1, hv1, hd1, ⟨g2, t2, cs2, f2, p2, q2, hg2, ht2, hv2, hd2, _, _⟩, _⟩, _⟩, _, _⟩ := h
  obtain rfl := Option.some.inj (gPow.symm.trans hg2)
  obtain rfl := Option.some.inj (tPow.symm.trans ht2)
  have hcs := Lib.cells_of_tab (zs := pow10.map fun n : Nat => (n : Int)) Tryd.underlying168 Tryd.underlying49 (by kernel_rfl) (by kernel_rfl) (show DataW.trod _ _ _ _ _ _ _ _ _ = some (Lib.tabData .u64 (pow10.map fun n : Nat => (n : Int)), _) from hd2)
  intro j v hj
  have h1 := World.var?_cell hg2 hv2 j
  have h2 : cs2[j]? = some v := by
    rw [← Array.getElem?_toList, hcs, List.map_map]
    exact hj
  rw [h2] at h1
  rw [Nat.zero_add]
  exact (cell_is h1).2
theorem list4 {α : Type _} : ∀ {l : List α}, l.length = 4 → ∃ a b c d, l = [a, b, c, d]
  | [a, b, c, d], _ => ⟨a, b, c, d, rfl⟩
theorem list8 {α : Type _} : ∀ {l : List α}, l.length = 8 → ∃ a b c d e f g h, l = [a, b, c, d, e, f, g, h]
  | [a, b, c, d, e, f, g, h], _ => ⟨a, b, c, d, e, f, g, h, rfl⟩
section
variable {H : Type} {enc : TypeId × Value → H} {w : World} {base : Nat} {spare : Nat → Bool} {held : Bool} {fuel : Nat} {xs : List Value} {x : DataW H × List MemPlace}
theorem int_reads (h : DataW.trod enc Tryd.prog w base spare held fuel 3 xs = some x) : ∃ n : Int, True ∧ xs = intCells n := by
  obtain ⟨c, e, _, _⟩ := DataW.trod_int Tryd.underlying3 h
  exact ⟨c, trivial, e⟩
/-- A row of numbers. -/
theorem ints_read (h : DataW.trod enc Tryd.prog w base spare held fuel 28 xs = some x) : ∃ a n c, ∃ l : List Int, xs = [.slice a n c] ∧ rd a n 1 (l.map intCells) (hp w) ∧ n ≤ c := by
  obtain ⟨a, n, c, xss, m, e, hn, _, hl, r, g⟩ := open_rows (sz := 1) Tryd.underlying28 (by kernel_rfl) (by decide) h
  obtain ⟨l, rfl, _⟩ := lift_list (p := fun _ => True) (f := intCells) (l := xss) (fun xs hx => by
    obtain ⟨_, y, hy⟩ := g xs hx
    exact int_reads hy)
  exact ⟨a, n, c, l, e, r, hn⟩
theorem rowIn_of {a : Option Addr} {n c : Nat} {l : List Int} {M : PH} (h : rd a n 1 (l.map intCells) M) (hn : n ≤ c) : rowIn M a n c l := ⟨h, hn, by simpa using h.1⟩
theorem term_reads (hl : xs.length = 4) (h : DataW.trod enc Tryd.prog w base spare held fuel 30 xs = some x) : ∃ y : TermC, y.Ok (hp w) ∧ xs = termCells y := by
  obtain ⟨m0, y0, h0⟩ := open_fld Tryd.underlying30 0 rfl h
  obtain ⟨m1, y1, h1⟩ := open_fld Tryd.underlying30 1 rfl h
  obtain ⟨m2, y2, h2⟩ := open_fld Tryd.underlying30 2 rfl h
  obtain ⟨m3, y3, h3⟩ := open_fld Tryd.underlying30 3 rfl h
  obtain ⟨op, e0, _, _⟩ := DataW.trod_int Tryd.underlying3 h0
  obtain ⟨f, e1, _, _⟩ := DataW.trod_int Tryd.underlying3 h1
  obtain ⟨a, n, c, l, e2, r, hn⟩ := ints_read h2
  obtain ⟨s, e3, _, _⟩ := DataW.trod_string Tryd.underlying9 h3
  have ci : Tryd.prog.cellsOf 3 = 1 := by kernel_rfl
  have cr : Tryd.prog.cellsOf 28 = 1 := by kernel_rfl
  have cs : Tryd.prog.cellsOf 9 = 1 := by kernel_rfl
  obtain ⟨u0, u1, u2, u3, rfl⟩ := list4 hl
  simp [ci, cr, cs] at e0 e1 e2 e3
  subst e0; subst e1; subst e2; subst e3
  exact ⟨⟨op, f, a, n, c, l, s⟩, rowIn_of r hn, rfl⟩
theorem act_reads (hl : xs.length = 8) (h : DataW.trod enc Tryd.prog w base spare held fuel 32 xs = some x) : ∃ y : ActC, y.Ok (hp w) ∧ xs = actCells y := by
  obtain ⟨m0, y0, h0⟩ := open_fld Tryd.underlying32 0 rfl h
  obtain ⟨m1, y1, h1⟩ := open_fld Tryd.underlying32 1 rfl h
  obtain ⟨m2, y2, h2⟩ := open_fld Tryd.underlying32 2 rfl h
  obtain ⟨m3, y3, h3⟩ := open_fld Tryd.underlying32 3 rfl h
  obtain ⟨m4, y4, h4⟩ := open_fld Tryd.underlying32 4 rfl h
  obtain ⟨wt, e0, _, _⟩ := DataW.trod_int Tryd.underlying3 h0
  obtain ⟨s, e1, _, _⟩ := DataW.trod_string Tryd.underlying9 h1
  obtain ⟨a, n, c, l, e2, r, hn⟩ := ints_read h2
  obtain ⟨res, e3, _, _⟩ := DataW.trod_int Tryd.underlying3 h3
  have ci : Tryd.prog.cellsOf 3 = 1 := by kernel_rfl
  have cr : Tryd.prog.cellsOf 28 = 1 := by kernel_rfl
  have cs : Tryd.prog.cellsOf 9 = 1 := by kernel_rfl
  have ct : Tryd.prog.cellsOf 30 = 4 := by kernel_rfl
  obtain ⟨u0, u1, u2, u3, u4, u5, u6, u7, rfl⟩ := list8 hl
  obtain ⟨y, hy, e4⟩ := term_reads (by simp [ct]) h4
  simp [ci, cr, cs, ct, termCells] at e0 e1 e2 e3 e4
  subst e0; subst e1; subst e2; subst e3
  obtain ⟨rfl, rfl, rfl, rfl⟩ := e4
  exact ⟨⟨wt, s, a, n, c, l, res, y⟩, ⟨rowIn_of r hn, hy⟩, rfl⟩
/-- A list of acts. -/
theorem acts_read (h : DataW.trod enc Tryd.prog w base spare held fuel 22 xs = some x) : ∃ a n c, ∃ l : List ActC, xs = [.slice a n c] ∧ rd a n 8 (l.map actCells) (hp w) ∧ ∀ y ∈ l, y.Ok (hp w) := by
  obtain ⟨a, n, c, xss, m, e, _, _, _, r, g⟩ := open_rows (sz := 8) Tryd.underlying22 (by kernel_rfl) (by decide) h
  obtain ⟨l, rfl, ok⟩ := lift_list (p := ActC.Ok (hp w)) (f := actCells) (l := xss) (fun xs hx => by
    obtain ⟨h3, y, hy⟩ := g xs hx
    exact act_reads h3 hy)
  exact ⟨a, n, c, l, e, r, ok⟩
end

end Go.Proofs.YtmlnnepgigieaaaDoor
