/- PROVED HERE: whatever list of 64-bit words and whatever two lists of unknowns collatorlaw03.ScoreBest is handed, it returns true, and the three lists read behind the call as they read before. No condition. -/
import Derived.Test.YthnejajlkijobaaRows
import Derived.Test.YthnejajlkijobaaScoreLaw
import Derived.Test.YthnejajlkijobaaRead
import Derived.OpenShut
namespace Go.Proofs.Ythnejajlkijobaa
open Go.ChangeShapes Go.WideShapes Go.ChangeAt Go.RowKit Go.Sx

theorem Try.own : ownKnob Try.prog.godebug = none := by kernel_rfl
theorem Try.laidOut : laidOutB Try.prog = true := by kernel_rfl

section
variable {H : Type} {enc : TypeId × Value → H} {w : World} {base : Nat} {spare : Nat → Bool} {held : Bool} {fuel : Nat} {xs : List Value} {x : DataW H × List MemPlace}
theorem int_reads (h : DataW.trod enc Try.prog w base spare held fuel 3 xs = some x) : ∃ n : Int, True ∧ xs = intCells n := by
  obtain ⟨c, e, _, _⟩ := DataW.trod_int Try.underlying3 h
  exact ⟨c, trivial, e⟩
theorem u64_reads (h : DataW.trod enc Try.prog w base spare held fuel 49 xs = some x) : ∃ n : Int, True ∧ xs = u64Cells n := by
  obtain ⟨c, e, _, _⟩ := DataW.trod_int Try.underlying49 h
  exact ⟨c, trivial, e⟩
end

set_option maxRecDepth 100000 in
theorem scoreBest_lifted (os : Os) (started : os.Started) (H : Type) (enc : TypeId × Value → H) :
    ReturnsInHanded {} Try.checked os 4 .any (Rows.scoreBestSpec.pre6 enc Try.prog Try.f4 Rows.scoreBestRow.domain false) (Rows.scoreBestSpec.post enc Try.prog Try.f4 false true false false) := by
  refine returnsInHanded_of_change (C := Try.checked) Try.own started (by kernel_rfl) Try.func4
    (ChangeSpec.witness6 (enc := enc) (C := Try.checked) false ⟨#[], #[.slice none 0 0, .slice none 0 0, .slice none 0 0], []⟩ 8 (by kernel_rfl) (by kernel_rfl) (by kernel_rfl) (by kernel_rfl)) ?_
  intro W base args ds gs before hval0 hW hcnd _
  have hval : ∀ (j : Nat) t v, Try.f4.params[j]? = some t → args[j]? = some v → Value.okWide Try.prog W .any base t v := hval0
  clear hval0
  have hW' := hW
  obtain ⟨p, q, hA0, hV, rfl, hfz, hnd⟩ := hW
  have hA : DataW.TrodAll enc Try.prog W 0 (fun _ => true) true Try.f4.params.toList args.toList ds p := hA0
  rw [Try.params4] at hA hval
  obtain ⟨v0, v1, v2, d0, d1, d2, p0, p1, p2, rfl, rfl, rfl, h0, h1, h2⟩ := trodAll_three hA
  obtain ⟨rfl, rfl⟩ := trodVars_none hV
  clear hA0
  simp only [List.append_nil] at hW'
  obtain ⟨sa, sn, sc, rfl⟩ := okWide_slice Try.underlying45 (hval 0 45 v0 rfl rfl)
  obtain ⟨la, ln, lc, rfl⟩ := okWide_slice Try.underlying28 (hval 1 28 v1 rfl rfl)
  obtain ⟨ma, mn, mc, rfl⟩ := okWide_slice Try.underlying28 (hval 2 28 v2 rfl rfl)
  obtain ⟨fu0, t0⟩ := id h0
  obtain ⟨fu1, t1⟩ := id h1
  obtain ⟨fu2, t2⟩ := id h2
  obtain ⟨sa', sn', sc', xss, m0, e0, _, _, hl0, r0, g0⟩ := open_rows (sz := 1) Try.underlying45 (by kernel_rfl) (by decide) t0
  obtain ⟨la', ln', lc', yss, m1, e1, _, _, hl1, r1, g1⟩ := open_rows (sz := 1) Try.underlying28 (by kernel_rfl) (by decide) t1
  obtain ⟨ma', mn', mc', zss, m2, e2, _, _, hl2, r2, g2⟩ := open_rows (sz := 1) Try.underlying28 (by kernel_rfl) (by decide) t2
  obtain ⟨rfl, rfl, rfl⟩ : sa = sa' ∧ sn = sn' ∧ sc = sc' := by simpa [Value.cells] using e0
  obtain ⟨rfl, rfl, rfl⟩ : la = la' ∧ ln = ln' ∧ lc = lc' := by simpa [Value.cells] using e1
  obtain ⟨rfl, rfl, rfl⟩ : ma = ma' ∧ mn = mn' ∧ mc = mc' := by simpa [Value.cells] using e2
  obtain ⟨bits, rfl, _⟩ := lift_list (p := fun _ => True) (f := u64Cells) (l := xss) (fun xs hx => by
    obtain ⟨h3, y, hy⟩ := g0 xs hx
    exact u64_reads hy)
  obtain ⟨l, rfl, _⟩ := lift_list (p := fun _ => True) (f := intCells) (l := yss) (fun xs hx => by
    obtain ⟨h3, y, hy⟩ := g1 xs hx
    exact int_reads hy)
  obtain ⟨m, rfl, _⟩ := lift_list (p := fun _ => True) (f := intCells) (l := zss) (fun xs hx => by
    obtain ⟨h3, y, hy⟩ := g2 xs hx
    exact int_reads hy)
  refine (sbest_any sa la ma sn sc ln lc mn mc bits l m (by simpa using hl0) (by simpa using hl1) (by simpa using hl2) [old W] W (old_ent (Up.and (Up.rd _ _ _ _) (Up.and (Up.rd _ _ _ _) (Up.rd _ _ _ _))) ⟨r0, r1, r2⟩) (old_sl W)).mono fun e W' ⟨v, H', he, hv, hst, hs⟩ => ?_
  obtain ⟨rfl, rfl⟩ := hv
  subst he
  have bel := old_below hst hs
  refine ⟨_, rfl, _, _, _, [], p0 ++ (p1 ++ p2), [], hW', trodAll_mk1 (shut_bool Try.underlying4 true), trodAll_mk3 (Below.trod Try.laidOut (by kernel_rfl) (of_decide_eq_true (by kernel_rfl)) h0 bel (fun p hp => DataW.trod_lt _ _ _ _ t0 p hp)) (Below.trod Try.laidOut (by kernel_rfl) (of_decide_eq_true (by kernel_rfl)) h1 bel (fun p hp => DataW.trod_lt _ _ _ _ t1 p hp)) (Below.trod Try.laidOut (by kernel_rfl) (of_decide_eq_true (by kernel_rfl)) h2 bel (fun p hp => DataW.trod_lt _ _ _ _ t2 p hp)), rfl, bel.frame _, fun h => by cases h⟩

theorem provedBest : Rows.ScoreBestSaid :=
  OpenClaim.holds_of_wide 4 Try.f4 rfl rfl rfl rfl rfl rfl rfl ⟨rfl, rfl, rfl, rfl, rfl⟩ rfl rfl rfl rfl rfl (by kernel_rfl) Try.func4 (by kernel_rfl)
    (of_decide_eq_true (by kernel_rfl)) (by unfold Func.isWrapper; first | (rw [if_pos (by decide +kernel)]; kernel_rfl) | (rw [if_neg (by decide +kernel)]; exact ⟨rfl, rfl⟩))
    (fun os started H enc _ => scoreBest_lifted os started H enc)
#print axioms provedBest

end Go.Proofs.Ythnejajlkijobaa
