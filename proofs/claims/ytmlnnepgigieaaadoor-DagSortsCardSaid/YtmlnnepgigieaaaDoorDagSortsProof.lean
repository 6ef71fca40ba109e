/- PROVED HERE: whatever list of acts collatorlaw06.DagSorts is handed, it returns true, and all that it was handed reads behind the call as it read before. No condition but the given card's: the listed tables lie as the program's text lays them. -/
import Derived.Test.YtmlnnepgigieaaaDoorRows
import Derived.Test.YtmlnnepgigieaaaDoorTie
import Derived.Test.YtmlnnepgigieaaaDoorCards
import Derived.Test.YtmlnnepgigieaaaDoorDagRead
import Derived.Test.YtmlnnepgigieaaaDoorDlawE
import Derived.OpenShut
import Derived.LaidMore
import Derived.Stop.Joined
import Derived.SevenTiedAt
namespace Go.Proofs.YtmlnnepgigieaaaDoor
open Go.ChangeShapes Go.WideShapes Go.ChangeAt Go.RowKit Go.Sx

theorem ownDagSorts : ownKnob Tryd.prog.godebug = none := by kernel_rfl
theorem laidOutDagSorts : laidOutB Tryd.prog = true := by kernel_rfl
theorem door_metDagSorts (os : Os) (args : Array Value) : laidMetH Tryd.prog Rows.dagSortsRow.laid ((World.doorLaid Tryd.prog 400 os).forCall (fun _ _ => 0) ⟨#[], args, []⟩).memory :=
  laidMetH_of_parts3 (fuel := 8) (laidMet_of_run' 8 (by kernel_rfl) (by kernel_rfl)) (by kernel_rfl) (by kernel_rfl)
set_option maxRecDepth 100000 in
theorem dagSorts_lifted (os : Os) (started : os.Started) (H : Type) (enc : TypeId × Value → H) :
    ReturnsInHanded {} Tryd.checked os 6 .any (fun w args => (Rows.dagSortsSpec.pre enc Tryd.prog Tryd.f6 [] false w args ∧ laidMetH Tryd.prog Rows.dagSortsRow.laid w) ∧ sizedMet enc Tryd.prog Tryd.f6 (OpenSpec.ofChange Rows.dagSortsSpec) false w args)
      (Rows.dagSortsSpec.post enc Tryd.prog Tryd.f6 false true false false) := by
  refine returnsInHanded_of_change_and (C := Tryd.checked) (X := fun w _ => laidMetH Tryd.prog Rows.dagSortsRow.laid w) (fun _ _ _ hh h => h.of_heap hh) ownDagSorts started (by kernel_rfl) Tryd.func6
    (ChangeSpec.witness_shaped (enc := enc) (C := Tryd.checked) (os := os) (X := fun w _ => laidMetH Tryd.prog Rows.dagSortsRow.laid w) false (World.doorLaid Tryd.prog 400 os) #[.slice none 0 0] 8 rfl (World.shaped_of_RefB (by kernel_rfl) (by kernel_rfl)) (by kernel_rfl) (by kernel_rfl) (by kernel_rfl) (door_metDagSorts os _)) ?_
  intro W base args ds gs before hval0 hW _ _ hL _
  have hval : ∀ (j : Nat) t v, Tryd.f6.params[j]? = some t → args[j]? = some v → Value.okWide Tryd.prog W .any base t v := hval0
  clear hval0
  have hW' := hW
  obtain ⟨p, q, hA0, hV, rfl, hfz, hnd⟩ := hW
  have hA : DataW.TrodAll enc Tryd.prog W 0 (fun _ => true) true Tryd.f6.params.toList args.toList ds p := hA0
  rw [Tryd.params6] at hA hval
  obtain ⟨v0, d0, rfl, rfl, h0⟩ := trodAll_one hA
  obtain ⟨rfl, rfl⟩ := trodVars_none hV
  clear hA0
  simp only [List.append_nil] at hW'
  have htab : tabP (hp W) := tab_of (rfl) hL
  obtain ⟨fu0, t0⟩ := id h0
  obtain ⟨a0, n0, c0, rfl⟩ := okWide_slice Tryd.underlying22 (hval 0 22 v0 rfl rfl)
  obtain ⟨a0', n0', c0', l, e0, r0, ok0⟩ := acts_read t0
  obtain ⟨rfl, rfl, rfl⟩ : a0 = a0' ∧ n0 = n0' ∧ c0 = c0' := by simpa [Value.cells] using e0
  refine (dagSorts_any a0 n0 c0 l (hp W) r0 (by simpa using r0.1) ok0 htab [old W] W (old_ent (R := imm (hp W)) (fun _ _ e h => le.trans h e) (le.refl _)) (old_sl W)).mono fun e W' ⟨v, H', he, hv, hst, hs⟩ => ?_
  obtain ⟨rfl, rfl⟩ := hv
  subst he
  have bel := old_below hst hs
  refine ⟨_, rfl, _, _, _, [], p, [], hW', trodAll_mk1 (shut_bool Tryd.underlying4 true), trodAll_mk1 (Below.trod laidOutDagSorts (by kernel_rfl) (of_decide_eq_true (by kernel_rfl)) h0 bel (fun p hp => DataW.trod_lt _ _ _ _ t0 p hp)), rfl, bel.frame _, fun h => by cases h⟩

theorem rowDagSorts : Rows.DagSortsSaid :=
  OpenClaim.holds_of_wide 6 Tryd.f6 rfl rfl rfl rfl rfl rfl rfl ⟨rfl, rfl, rfl, rfl, rfl⟩ rfl rfl rfl rfl rfl (by kernel_rfl) Tryd.func6 (by kernel_rfl)
    (of_decide_eq_true (by kernel_rfl)) (by unfold Func.isWrapper; first | (rw [if_pos (by decide +kernel)]; kernel_rfl) | (rw [if_neg (by decide +kernel)]; exact ⟨rfl, rfl⟩))
    (fun os started H enc _ => dagSorts_lifted os started H enc)

theorem provedDagSorts : Rows.DagSortsCardSaid :=
  Claim7.holds_tied_plain_at .later [] [.data, .data, .data] true (true, "238137e7f881b9274b894cc7e069c856d7ded53245239bb1ff27a92226328f89") false
    rowDagSorts (fun _ h => by cases h) (by kernel_rfl) (fun _ h => by cases h) dagSorts_row_tie rfl ⟨rfl, rfl⟩ (by kernel_rfl) rfl
    (fun f fn hf hfn => by
      obtain rfl : f = 6 := Option.some.inj ((show Tryd.prog.funcNamed "collator/collatorlaw06.DagSorts" = some 6 by kernel_rfl).symm.trans hf) |>.symm
      obtain rfl : fn = Tryd.f6 := (Option.some.inj (Tryd.func6.symm.trans hfn)).symm
      exact ⟨by kernel_rfl, fun j t ht => by
        rw [Tryd.params6] at ht
        match j with
        | 0 => simp at ht; subst ht; exact (show Tryd.prog.wantsStandIn 22 = false by kernel_rfl)
        | j + 1 => simp at ht⟩)
    (by kernel_rfl)
#print axioms provedDagSorts

end Go.Proofs.YtmlnnepgigieaaaDoor
