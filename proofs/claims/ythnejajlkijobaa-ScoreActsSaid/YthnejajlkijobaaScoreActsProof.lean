/- PROVED HERE: whatever number, decay, list of acts and list of unknowns collatorlaw03.ScoreActs is handed, it returns true, and all that it was handed reads behind the call as it read before. No condition. -/
import Derived.Test.YthnejajlkijobaaRows
import Derived.Test.YthnejajlkijobaaScoreActs
import Derived.Test.YthnejajlkijobaaRead
import Derived.OpenShut
namespace Go.Proofs.Ythnejajlkijobaa
open Go.ChangeShapes Go.WideShapes Go.ChangeAt Go.RowKit Go.Sx

theorem Try.own : ownKnob Try.prog.godebug = none := by kernel_rfl
theorem Try.laidOut : laidOutB Try.prog = true := by kernel_rfl

section
variable {H : Type} {enc : TypeId × Value → H} {w : World} {base : Nat} {spare : Nat → Bool} {held : Bool} {fuel : Nat} {xs : List Value} {x : DataW H × List MemPlace}
theorem actS_reads (hl : xs.length = 4) (h : DataW.trod enc Try.prog w base spare held fuel 60 xs = some x) : ∃ a : ActS, a.Ok ∧ xs = actSCells a := by
  obtain ⟨m0, y0, h0⟩ := open_fld Try.underlying60 0 rfl h
  obtain ⟨m1, y1, h1⟩ := open_fld Try.underlying60 1 rfl h
  obtain ⟨m2, y2, h2⟩ := open_fld Try.underlying60 2 rfl h
  obtain ⟨m3, y3, h3⟩ := open_fld Try.underlying60 3 rfl h
  obtain ⟨a, e0, _, _⟩ := DataW.trod_int Try.underlying3 h0
  obtain ⟨b, e1, _, _⟩ := DataW.trod_int Try.underlying3 h1
  obtain ⟨c, e2, _, _⟩ := DataW.trod_int Try.underlying3 h2
  obtain ⟨d, e3, _, wd⟩ := DataW.trod_int Try.underlying49 h3
  have c3 : Try.prog.cellsOf 3 = 1 := by kernel_rfl
  have c9 : Try.prog.cellsOf 49 = 1 := by kernel_rfl
  match xs, hl with
  | [u, v, z, q], _ =>
    simp [c3, c9] at e0 e1 e2 e3
    subst e0; subst e1; subst e2; subst e3
    have := bounds_u64 wd
    exact ⟨⟨a, b, c, d⟩, ⟨this.1, show d < 18446744073709551616 by omega⟩, rfl⟩
theorem int_reads (h : DataW.trod enc Try.prog w base spare held fuel 3 xs = some x) : ∃ n : Int, True ∧ xs = intCells n := by
  obtain ⟨c, e, _, _⟩ := DataW.trod_int Try.underlying3 h
  exact ⟨c, trivial, e⟩
theorem okWide_float {P : Program} {r : Reach} {b0 : Nat} {t : TypeId} {k : FloatKind} {v : Value} (ht : P.underlying t = some (.float k)) (h : Value.okWide P w r b0 t v) : ∃ n, v = .float k n := by
  simp only [Value.okWide, ht, Cell.okWide] at h
  cases v <;> simp_all [Cell.ok]
end

set_option maxRecDepth 100000 in
theorem scoreActs_lifted (os : Os) (started : os.Started) (H : Type) (enc : TypeId × Value → H) :
    ReturnsInHanded {} Try.checked os 5 .any (Rows.scoreActsSpec.pre6 enc Try.prog Try.f5 Rows.scoreActsRow.domain false) (Rows.scoreActsSpec.post enc Try.prog Try.f5 false true false false) := by
  refine returnsInHanded_of_change (C := Try.checked) Try.own started (by kernel_rfl) Try.func5
    (ChangeSpec.witness6 (enc := enc) (C := Try.checked) false ⟨#[], #[.int .i64 0, .float .f64 0, .slice none 0 0, .slice none 0 0], []⟩ 8 (by kernel_rfl) (by kernel_rfl) (by kernel_rfl) (by kernel_rfl)) ?_
  intro W base args ds gs before hval0 hW hcnd _
  have hval : ∀ (j : Nat) t v, Try.f5.params[j]? = some t → args[j]? = some v → Value.okWide Try.prog W .any base t v := hval0
  clear hval0
  have hW' := hW
  obtain ⟨p, q, hA0, hV, rfl, hfz, hnd⟩ := hW
  have hA : DataW.TrodAll enc Try.prog W 0 (fun _ => true) true Try.f5.params.toList args.toList ds p := hA0
  rw [Try.params5] at hA hval
  obtain ⟨v0, v1, v2, v3, d0, d1, d2, d3, p0, p1, p2, p3, rfl, rfl, rfl, h0, h1, h2, h3⟩ := trodAll_four hA
  obtain ⟨rfl, rfl⟩ := trodVars_none hV
  clear hA0
  simp only [List.append_nil, List.append_assoc] at hW'
  obtain ⟨n, rfl⟩ := okWide_int Try.underlying3 (hval 0 3 v0 rfl rfl)
  obtain ⟨fu0, t0⟩ := id h0
  obtain ⟨dc, rfl⟩ := okWide_float Try.underlying48 (hval 1 48 v1 rfl rfl)
  obtain ⟨fu1, t1⟩ := id h1
  obtain ⟨a2, n2, c2, rfl⟩ := okWide_slice Try.underlying56 (hval 2 56 v2 rfl rfl)
  obtain ⟨fu2, t2⟩ := id h2
  obtain ⟨a2', n2', c2', xs2, m2, e2, _, _, hl2, r2, g2⟩ := open_rows (sz := 4) Try.underlying56 (by kernel_rfl) (by decide) t2
  obtain ⟨rfl, rfl, rfl⟩ : a2 = a2' ∧ n2 = n2' ∧ c2 = c2' := by simpa [Value.cells] using e2
  obtain ⟨acts, rfl, ok2⟩ := lift_list (p := ActS.Ok) (f := actSCells) (l := xs2) (fun xs hx => by
    obtain ⟨h3, y, hy⟩ := g2 xs hx
    exact actS_reads h3 hy)
  obtain ⟨a3, n3, c3, rfl⟩ := okWide_slice Try.underlying28 (hval 3 28 v3 rfl rfl)
  obtain ⟨fu3, t3⟩ := id h3
  obtain ⟨a3', n3', c3', xs3, m3, e3, _, _, hl3, r3, g3⟩ := open_rows (sz := 1) Try.underlying28 (by kernel_rfl) (by decide) t3
  obtain ⟨rfl, rfl, rfl⟩ : a3 = a3' ∧ n3 = n3' ∧ c3 = c3' := by simpa [Value.cells] using e3
  obtain ⟨l, rfl, ok3⟩ := lift_list (p := fun _ => True) (f := intCells) (l := xs3) (fun xs hx => by
    obtain ⟨h3, y, hy⟩ := g3 xs hx
    exact int_reads hy)
  refine (sacts_any n dc a2 a3 n2 c2 n3 c3 acts l (by simpa using hl2) (by simpa using hl3) ok2 [old W] W (old_ent (Up.and (Up.rd _ _ _ _) (Up.rd _ _ _ _)) ⟨r2, r3⟩) (old_sl W)).mono fun e W' ⟨v, H', he, hv, hst, hs⟩ => ?_
  obtain ⟨rfl, rfl⟩ := hv
  subst he
  have bel := old_below hst hs
  refine ⟨_, rfl, _, _, _, [], p0 ++ (p1 ++ (p2 ++ p3)), [], hW', trodAll_mk1 (shut_bool Try.underlying4 true), trodAll_mk4 (Below.trod Try.laidOut (by kernel_rfl) (of_decide_eq_true (by kernel_rfl)) h0 bel (fun p hp => DataW.trod_lt _ _ _ _ t0 p hp)) (Below.trod Try.laidOut (by kernel_rfl) (of_decide_eq_true (by kernel_rfl)) h1 bel (fun p hp => DataW.trod_lt _ _ _ _ t1 p hp)) (Below.trod Try.laidOut (by kernel_rfl) (of_decide_eq_true (by kernel_rfl)) h2 bel (fun p hp => DataW.trod_lt _ _ _ _ t2 p hp)) (Below.trod Try.laidOut (by kernel_rfl) (of_decide_eq_true (by kernel_rfl)) h3 bel (fun p hp => DataW.trod_lt _ _ _ _ t3 p hp)), rfl, bel.frame _, fun h => by cases h⟩

theorem provedActs : Rows.ScoreActsSaid :=
  OpenClaim.holds_of_wide 5 Try.f5 rfl rfl rfl rfl rfl rfl rfl ⟨rfl, rfl, rfl, rfl, rfl⟩ rfl rfl rfl rfl rfl (by kernel_rfl) Try.func5 (by kernel_rfl)
    (of_decide_eq_true (by kernel_rfl)) (by unfold Func.isWrapper; first | (rw [if_pos (by decide +kernel)]; kernel_rfl) | (rw [if_neg (by decide +kernel)]; exact ⟨rfl, rfl⟩))
    (fun os started H enc _ => scoreActs_lifted os started H enc)
#print axioms provedActs

end Go.Proofs.Ythnejajlkijobaa
