/- PROVED HERE: whatever list of acts and whatever list of names collatorlaw08.ScopeActs is handed, it returns true, and both lists read behind the call as they read before. No condition. -/
import Derived.Test.YthnejajlkijobaaRows
import Derived.Test.YthnejajlkijobaaScopeLaw
import Derived.Test.YthnejajlkijobaaRead
import Derived.OpenShut
namespace Go.Proofs.Ythnejajlkijobaa
open Go.ChangeShapes Go.WideShapes Go.ChangeAt Go.RowKit Go.Sx

theorem Try.own : ownKnob Try.prog.godebug = none := by kernel_rfl
theorem Try.laidOut : laidOutB Try.prog = true := by kernel_rfl

section
variable {H : Type} {enc : TypeId × Value → H} {w : World} {base : Nat} {spare : Nat → Bool} {held : Bool} {fuel : Nat} {xs : List Value} {x : DataW H × List MemPlace}
theorem act_reads (hl : xs.length = 3) (h : DataW.trod enc Try.prog w base spare held fuel 32 xs = some x) : ∃ a : ActV, a.Ok ∧ xs = actCells a := by
  obtain ⟨m0, y0, h0⟩ := open_fld Try.underlying32 0 rfl h
  obtain ⟨m1, y1, h1⟩ := open_fld Try.underlying32 1 rfl h
  obtain ⟨m2, y2, h2⟩ := open_fld Try.underlying32 2 rfl h
  obtain ⟨a, e0, _, _⟩ := DataW.trod_int Try.underlying3 h0
  obtain ⟨b, e1, _, wb⟩ := DataW.trod_int Try.underlying3 h1
  obtain ⟨c, e2, _, _⟩ := DataW.trod_string Try.underlying9 h2
  have c3 : Try.prog.cellsOf 3 = 1 := by kernel_rfl
  have c9 : Try.prog.cellsOf 9 = 1 := by kernel_rfl
  match xs, hl with
  | [u, v, z], _ =>
    simp [c3, c9] at e0 e1 e2
    subst e0; subst e1; subst e2
    exact ⟨⟨a, b, c⟩, bounds_i64 wb, rfl⟩
theorem str_reads (h : DataW.trod enc Try.prog w base spare held fuel 9 xs = some x) : ∃ s : ByteArray, True ∧ xs = strCells s := by
  obtain ⟨c, e, _, _⟩ := DataW.trod_string Try.underlying9 h
  exact ⟨c, trivial, e⟩
end

set_option maxRecDepth 100000 in
theorem scopeActs_lifted (os : Os) (started : os.Started) (H : Type) (enc : TypeId × Value → H) :
    ReturnsInHanded {} Try.checked os 3 .any (Rows.scopeActsSpec.pre6 enc Try.prog Try.f3 Rows.scopeActsRow.domain false) (Rows.scopeActsSpec.post enc Try.prog Try.f3 false true false false) := by
  refine returnsInHanded_of_change (C := Try.checked) Try.own started (by kernel_rfl) Try.func3
    (ChangeSpec.witness6 (enc := enc) (C := Try.checked) false ⟨#[], #[.slice none 0 0, .slice none 0 0], []⟩ 8 (by kernel_rfl) (by kernel_rfl) (by kernel_rfl) (by kernel_rfl)) ?_
  intro W base args ds gs before hval0 hW hcnd _
  have hval : ∀ (j : Nat) t v, Try.f3.params[j]? = some t → args[j]? = some v → Value.okWide Try.prog W .any base t v := hval0
  clear hval0
  have hW' := hW
  obtain ⟨p, q, hA0, hV, rfl, hfz, hnd⟩ := hW
  have hA : DataW.TrodAll enc Try.prog W 0 (fun _ => true) true Try.f3.params.toList args.toList ds p := hA0
  rw [Try.params3] at hA hval
  obtain ⟨v0, v1, d0, d1, p0, p1, rfl, rfl, rfl, h0, h1⟩ := trodAll_two hA
  obtain ⟨rfl, rfl⟩ := trodVars_none hV
  clear hA0
  simp only [List.append_nil] at hW'
  obtain ⟨la, ln, lc, rfl⟩ := okWide_slice Try.underlying22 (hval 0 22 v0 rfl rfl)
  obtain ⟨qa, qn, qc, rfl⟩ := okWide_slice Try.underlying23 (hval 1 23 v1 rfl rfl)
  obtain ⟨fu0, t0⟩ := id h0
  obtain ⟨fu1, t1⟩ := id h1
  obtain ⟨la', ln', lc', xss, m0, e0, _, _, hl0, r0, g0⟩ := open_rows (sz := 3) Try.underlying22 (by kernel_rfl) (by decide) t0
  obtain ⟨qa', qn', qc', yss, m1, e1, _, _, hl1, r1, g1⟩ := open_rows (sz := 1) Try.underlying23 (by kernel_rfl) (by decide) t1
  obtain ⟨rfl, rfl, rfl⟩ : la = la' ∧ ln = ln' ∧ lc = lc' := by simpa [Value.cells] using e0
  obtain ⟨rfl, rfl, rfl⟩ : qa = qa' ∧ qn = qn' ∧ qc = qc' := by simpa [Value.cells] using e1
  obtain ⟨acts, rfl, hok⟩ := lift_list (p := ActV.Ok) (f := actCells) (l := xss) (fun xs hx => by
    obtain ⟨h3, y, hy⟩ := g0 xs hx
    exact act_reads h3 hy)
  obtain ⟨ask, rfl, _⟩ := lift_list (p := fun _ => True) (f := strCells) (l := yss) (fun xs hx => by
    obtain ⟨h3, y, hy⟩ := g1 xs hx
    exact str_reads hy)
  refine (acts_any la qa ln lc qn qc acts ask (by simpa using hl0) (by simpa using hl1) hok [old W] W (old_ent (Up.and (Up.rd _ _ _ _) (Up.rd _ _ _ _)) ⟨r0, r1⟩) (old_sl W)).mono fun e W' ⟨v, H', he, hv, hst, hs⟩ => ?_
  obtain ⟨rfl, rfl⟩ := hv
  subst he
  have bel := old_below hst hs
  refine ⟨_, rfl, _, _, _, [], p0 ++ p1, [], hW', trodAll_mk1 (shut_bool Try.underlying4 true), trodAll_mk2 (Below.trod Try.laidOut (by kernel_rfl) (of_decide_eq_true (by kernel_rfl)) h0 bel (fun p hp => DataW.trod_lt _ _ _ _ t0 p hp)) (Below.trod Try.laidOut (by kernel_rfl) (of_decide_eq_true (by kernel_rfl)) h1 bel (fun p hp => DataW.trod_lt _ _ _ _ t1 p hp)), rfl, bel.frame _, fun h => by cases h⟩

theorem proved : Rows.ScopeActsSaid :=
  OpenClaim.holds_of_wide 3 Try.f3 rfl rfl rfl rfl rfl rfl rfl ⟨rfl, rfl, rfl, rfl, rfl⟩ rfl rfl rfl rfl rfl (by kernel_rfl) Try.func3 (by kernel_rfl)
    (of_decide_eq_true (by kernel_rfl)) (by unfold Func.isWrapper; first | (rw [if_pos (by decide +kernel)]; kernel_rfl) | (rw [if_neg (by decide +kernel)]; exact ⟨rfl, rfl⟩))
    (fun os started H enc _ => scopeActs_lifted os started H enc)
#print axioms proved

end Go.Proofs.Ythnejajlkijobaa
