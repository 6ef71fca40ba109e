/- PROVED HERE: whatever two lists of acts collatorlaw06.DagOnce is handed, it returns true, and all that it was handed reads behind the call as it read before. No condition but the given card's: the listed tables lie as the program's text lays them. -/
import Derived.Test.YtmlnnepgigieaaaDoorRows
import Derived.Test.YtmlnnepgigieaaaDoorTie
import Derived.Test.YtmlnnepgigieaaaDoorCards
import Derived.Test.YtmlnnepgigieaaaDoorDagRead
import Derived.Test.YtmlnnepgigieaaaDoorDlawG
import Derived.OpenShut
import Derived.LaidMore
import Derived.Stop.Joined
import Derived.SevenTiedAt
namespace Go.Proofs.YtmlnnepgigieaaaDoor
open Go.ChangeShapes Go.WideShapes Go.ChangeAt Go.RowKit Go.Sx

theorem ownDagOnce : ownKnob Tryd.prog.godebug = none := by kernel_rfl
theorem laidOutDagOnce : laidOutB Tryd.prog = true := by kernel_rfl
theorem door_metDagOnce (os : Os) (args : Array Value) : laidMetH Tryd.prog Rows.dagOnceRow.laid ((World.doorLaid Tryd.prog 400 os).forCall (fun _ _ => 0) ⟨#[], args, []⟩).memory :=
  laidMetH_of_parts3 (fuel := 8) (laidMet_of_run' 8 (by kernel_rfl) (by kernel_rfl)) (by kernel_rfl) (by kernel_rfl)
set_option maxRecDepth 100000 in
theorem dagOnce_lifted (os : Os) (started : os.Started) (H : Type) (enc : TypeId × Value → H) :
    ReturnsInHanded {} Tryd.checked os 3 .any (fun w args => (Rows.dagOnceSpec.pre enc Tryd.prog Tryd.f3 [] false w args ∧ laidMetH Tryd.prog Rows.dagOnceRow.laid w) ∧ sizedMet enc Tryd.prog Tryd.f3 (OpenSpec.ofChange Rows.dagOnceSpec) false w args)
      (Rows.dagOnceSpec.post enc Tryd.prog Tryd.f3 false true false false) := by
  refine returnsInHanded_of_change_and (C := Tryd.checked) (X := fun w _ => laidMetH Tryd.prog Rows.dagOnceRow.laid w) (fun _ _ _ hh h => h.of_heap hh) ownDagOnce started (by kernel_rfl) Tryd.func3
    (ChangeSpec.witness_shaped (enc := enc) (C := Tryd.checked) (os := os) (X := fun w _ => laidMetH Tryd.prog Rows.dagOnceRow.laid w) false (World.doorLaid Tryd.prog 400 os) #[.slice none 0 0, .slice none 0 0] 8 rfl (World.shaped_of_RefB (by kernel_rfl) (by kernel_rfl)) (by kernel_rfl) (by kernel_rfl) (by kernel_rfl) (door_metDagOnce os _)) ?_
  intro W base args ds gs before hval0 hW _ _ hL _
  have hval : ∀ (j : Nat) t v, Tryd.f3.params[j]? = some t → args[j]? = some v → Value.okWide Tryd.prog W .any base t v := hval0
  clear hval0
  have hW' := hW
  obtain ⟨p, q, hA0, hV, rfl, hfz, hnd⟩ := hW
  have hA : DataW.TrodAll enc Tryd.prog W 0 (fun _ => true) true Tryd.f3.params.toList args.toList ds p := hA0
  rw [Tryd.params3] at hA hval
  obtain ⟨v0, v1, d0, d1, p0, p1, rfl, rfl, rfl, h0, h1⟩ := trodAll_two hA
  obtain ⟨rfl, rfl⟩ := trodVars_none hV
  clear hA0
  simp only [List.append_nil] at hW'
  have htab : tabP (hp W) := tab_of (rfl) hL
  obtain ⟨fu0, t0⟩ := id h0
  obtain ⟨a0, n0, c0, rfl⟩ := okWide_slice Tryd.underlying22 (hval 0 22 v0 rfl rfl)
  obtain ⟨a0', n0', c0', l, e0, r0, ok0⟩ := acts_read t0
  obtain ⟨rfl, rfl, rfl⟩ : a0 = a0' ∧ n0 = n0' ∧ c0 = c0' := by simpa [Value.cells] using e0
  obtain ⟨fu1, t1⟩ := id h1
  obtain ⟨a1, n1, c1, rfl⟩ := okWide_slice Tryd.underlying22 (hval 1 22 v1 rfl rfl)
  obtain ⟨a1', n1', c1', l2, e1, r1, ok1⟩ := acts_read t1
  obtain ⟨rfl, rfl, rfl⟩ : a1 = a1' ∧ n1 = n1' ∧ c1 = c1' := by simpa [Value.cells] using e1
  refine (dagOnce_any a0 a1 n0 n1 c0 c1 l l2 (hp W) r0 r1 (by simpa using r0.1) (by simpa using r1.1) ok0 ok1 htab [old W] W (old_ent (R := imm (hp W)) (fun _ _ e h => le.trans h e) (le.refl _)) (old_sl W)).mono fun e W' ⟨v, H', he, hv, hst, hs⟩ => ?_
  obtain ⟨rfl, rfl⟩ := hv
  subst he
  have bel := old_below hst hs
  refine ⟨_, rfl, _, _, _, [], p0 ++ p1, [], hW', trodAll_mk1 (shut_bool Tryd.underlying4 true), trodAll_mk2 (Below.trod laidOutDagOnce (by kernel_rfl) (of_decide_eq_true (by kernel_rfl)) h0 bel (fun p hp => DataW.trod_lt _ _ _ _ t0 p hp)) (Below.trod laidOutDagOnce (by kernel_rfl) (of_decide_eq_true (by kernel_rfl)) h1 bel (fun p hp => DataW.trod_lt _ _ _ _ t1 p hp)), rfl, bel.frame _, fun h => by cases h⟩

theorem rowDagOnce : Rows.DagOnceSaid :=
  OpenClaim.holds_of_wide 3 Tryd.f3 rfl rfl rfl rfl rfl rfl rfl ⟨rfl, rfl, rfl, rfl, rfl⟩ rfl rfl rfl rfl rfl (by kernel_rfl) Tryd.func3 (by kernel_rfl)
    (of_decide_eq_true (by kernel_rfl)) (by unfold Func.isWrapper; first | (rw [if_pos (by decide +kernel)]; kernel_rfl) | (rw [if_neg (by decide +kernel)]; exact ⟨rfl, rfl⟩))
    (fun os started H enc _ => dagOnce_lifted os started H enc)

theorem provedDagOnce : Rows.DagOnceCardSaid :=
  Claim7.holds_tied_plain_at .later [] [.data, .data, .data] true (true, "238137e7f881b9274b894cc7e069c856d7ded53245239bb1ff27a92226328f89") false
    rowDagOnce (fun _ h => by cases h) (by kernel_rfl) (fun _ h => by cases h) dagOnce_row_tie rfl ⟨rfl, rfl⟩ (by kernel_rfl) rfl
    (fun f fn hf hfn => by
      obtain rfl : f = 3 := Option.some.inj ((show Tryd.prog.funcNamed "collator/collatorlaw06.DagOnce" = some 3 by kernel_rfl).symm.trans hf) |>.symm
      obtain rfl : fn = Tryd.f3 := (Option.some.inj (Tryd.func3.symm.trans hfn)).symm
      exact ⟨by kernel_rfl, fun j t ht => by
        rw [Tryd.params3] at ht
        match j with
        | 0 => simp at ht; subst ht; exact (show Tryd.prog.wantsStandIn 22 = false by kernel_rfl)
        | 1 => simp at ht; subst ht; exact (show Tryd.prog.wantsStandIn 22 = false by kernel_rfl)
        | j + 2 => simp at ht⟩)
    (by kernel_rfl)
#print axioms provedDagOnce

end Go.Proofs.YtmlnnepgigieaaaDoor
