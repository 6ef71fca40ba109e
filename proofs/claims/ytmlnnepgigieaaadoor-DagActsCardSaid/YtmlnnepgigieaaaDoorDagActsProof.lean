/- PROVED HERE: whatever number and list of acts collatorlaw06.DagActs is handed, it returns true, and all that it was handed reads behind the call as it read before. No condition but the given card's: the listed tables lie as the program's text lays them. -/
import Derived.Test.YtmlnnepgigieaaaDoorRows
import Derived.Test.YtmlnnepgigieaaaDoorTie
import Derived.Test.YtmlnnepgigieaaaDoorCards
import Derived.Test.YtmlnnepgigieaaaDoorDagRead
import Derived.Test.YtmlnnepgigieaaaDoorDlawB
import Derived.OpenShut
import Derived.LaidMore
import Derived.Stop.Joined
import Derived.SevenTiedAt
namespace Go.Proofs.YtmlnnepgigieaaaDoor
open Go.ChangeShapes Go.WideShapes Go.ChangeAt Go.RowKit Go.Sx

theorem ownDagActs : ownKnob Tryd.prog.godebug = none := by kernel_rfl
theorem laidOutDagActs : laidOutB Tryd.prog = true := by kernel_rfl
theorem door_metDagActs (os : Os) (args : Array Value) : laidMetH Tryd.prog Rows.dagActsRow.laid ((World.doorLaid Tryd.prog 400 os).forCall (fun _ _ => 0) ⟨#[], args, []⟩).memory :=
  laidMetH_of_parts3 (fuel := 8) (laidMet_of_run' 8 (by kernel_rfl) (by kernel_rfl)) (by kernel_rfl) (by kernel_rfl)
set_option maxRecDepth 100000 in
theorem dagActs_lifted (os : Os) (started : os.Started) (H : Type) (enc : TypeId × Value → H) :
    ReturnsInHanded {} Tryd.checked os 7 .any (fun w args => (Rows.dagActsSpec.pre enc Tryd.prog Tryd.f7 [] false w args ∧ laidMetH Tryd.prog Rows.dagActsRow.laid w) ∧ sizedMet enc Tryd.prog Tryd.f7 (OpenSpec.ofChange Rows.dagActsSpec) false w args)
      (Rows.dagActsSpec.post enc Tryd.prog Tryd.f7 false true false false) := by
  refine returnsInHanded_of_change_and (C := Tryd.checked) (X := fun w _ => laidMetH Tryd.prog Rows.dagActsRow.laid w) (fun _ _ _ hh h => h.of_heap hh) ownDagActs started (by kernel_rfl) Tryd.func7
    (ChangeSpec.witness_shaped (enc := enc) (C := Tryd.checked) (os := os) (X := fun w _ => laidMetH Tryd.prog Rows.dagActsRow.laid w) false (World.doorLaid Tryd.prog 400 os) #[.int .i64 0, .slice none 0 0] 8 rfl (World.shaped_of_RefB (by kernel_rfl) (by kernel_rfl)) (by kernel_rfl) (by kernel_rfl) (by kernel_rfl) (door_metDagActs os _)) ?_
  intro W base args ds gs before hval0 hW _ _ hL _
  have hval : ∀ (j : Nat) t v, Tryd.f7.params[j]? = some t → args[j]? = some v → Value.okWide Tryd.prog W .any base t v := hval0
  clear hval0
  have hW' := hW
  obtain ⟨p, q, hA0, hV, rfl, hfz, hnd⟩ := hW
  have hA : DataW.TrodAll enc Tryd.prog W 0 (fun _ => true) true Tryd.f7.params.toList args.toList ds p := hA0
  rw [Tryd.params7] at hA hval
  obtain ⟨v0, v1, d0, d1, p0, p1, rfl, rfl, rfl, h0, h1⟩ := trodAll_two hA
  obtain ⟨rfl, rfl⟩ := trodVars_none hV
  clear hA0
  simp only [List.append_nil] at hW'
  have htab : tabP (hp W) := tab_of (rfl) hL
  obtain ⟨fu0, t0⟩ := id h0
  obtain ⟨m, rfl⟩ := okWide_int Tryd.underlying3 (hval 0 3 v0 rfl rfl)
  obtain ⟨fu1, t1⟩ := id h1
  obtain ⟨a1, n1, c1, rfl⟩ := okWide_slice Tryd.underlying22 (hval 1 22 v1 rfl rfl)
  obtain ⟨a1', n1', c1', l, e1, r1, ok1⟩ := acts_read t1
  obtain ⟨rfl, rfl, rfl⟩ : a1 = a1' ∧ n1 = n1' ∧ c1 = c1' := by simpa [Value.cells] using e1
  refine (dagActs_any m a1 n1 c1 l (hp W) r1 (by simpa using r1.1) ok1 htab [old W] W (old_ent (R := imm (hp W)) (fun _ _ e h => le.trans h e) (le.refl _)) (old_sl W)).mono fun e W' ⟨v, H', he, hv, hst, hs⟩ => ?_
  obtain ⟨rfl, rfl⟩ := hv
  subst he
  have bel := old_below hst hs
  refine ⟨_, rfl, _, _, _, [], p0 ++ p1, [], hW', trodAll_mk1 (shut_bool Tryd.underlying4 true), trodAll_mk2 (Below.trod laidOutDagActs (by kernel_rfl) (of_decide_eq_true (by kernel_rfl)) h0 bel (fun p hp => DataW.trod_lt _ _ _ _ t0 p hp)) (Below.trod laidOutDagActs (by kernel_rfl) (of_decide_eq_true (by kernel_rfl)) h1 bel (fun p hp => DataW.trod_lt _ _ _ _ t1 p hp)), rfl, bel.frame _, fun h => by cases h⟩

theorem rowDagActs : Rows.DagActsSaid :=
  OpenClaim.holds_of_wide 7 Tryd.f7 rfl rfl rfl rfl rfl rfl rfl ⟨rfl, rfl, rfl, rfl, rfl⟩ rfl rfl rfl rfl rfl (by kernel_rfl) Tryd.func7 (by kernel_rfl)
    (of_decide_eq_true (by kernel_rfl)) (by unfold Func.isWrapper; first | (rw [if_pos (by decide +kernel)]; kernel_rfl) | (rw [if_neg (by decide +kernel)]; exact ⟨rfl, rfl⟩))
    (fun os started H enc _ => dagActs_lifted os started H enc)

theorem provedDagActs : Rows.DagActsCardSaid :=
  Claim7.holds_tied_plain_at .later [] [.data, .data, .data] true (true, "238137e7f881b9274b894cc7e069c856d7ded53245239bb1ff27a92226328f89") false
    rowDagActs (fun _ h => by cases h) (by kernel_rfl) (fun _ h => by cases h) dagActs_row_tie rfl ⟨rfl, rfl⟩ (by kernel_rfl) rfl
    (fun f fn hf hfn => by
      obtain rfl : f = 7 := Option.some.inj ((show Tryd.prog.funcNamed "collator/collatorlaw06.DagActs" = some 7 by kernel_rfl).symm.trans hf) |>.symm
      obtain rfl : fn = Tryd.f7 := (Option.some.inj (Tryd.func7.symm.trans hfn)).symm
      exact ⟨by kernel_rfl, fun j t ht => by
        rw [Tryd.params7] at ht
        match j with
        | 0 => simp at ht; subst ht; exact (show Tryd.prog.wantsStandIn 3 = false by kernel_rfl)
        | 1 => simp at ht; subst ht; exact (show Tryd.prog.wantsStandIn 22 = false by kernel_rfl)
        | j + 2 => simp at ht⟩)
    (by kernel_rfl)
#print axioms provedDagActs

end Go.Proofs.YtmlnnepgigieaaaDoor
