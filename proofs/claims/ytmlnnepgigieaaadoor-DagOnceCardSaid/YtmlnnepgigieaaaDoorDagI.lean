/- A term asked for: what is wrong with it; where it stands; or it is added. -/
import Derived.Test.YtmlnnepgigieaaaDoorDagH
namespace Go.Proofs.YtmlnnepgigieaaaDoor
open Go.Sx

theorem T101 : Ty1 Tryd.prog 101 (.nilFunc) := ⟨Tryd.isAgg101, Tryd.sizeOf101, Tryd.zeroValue101⟩
theorem C101 : TyC Tryd.prog 101 1 [.nilFunc] := T101.c rfl
theorem L97_0 : Fld Tryd.prog 97 0 0 := ⟨⟨_, Tryd.underlying97, _, rfl, rfl, 1, by decide, Tryd.sizeOf3⟩⟩


/-- The five things that are looked at, in order. -/
def errs (S : DagS) (x : TermC) (k : Nat) : Int := match k with
  | 0 => headE S.funs.length x
  | 1 => kidsE S x
  | 2 => countE S x
  | 3 => sortE S x
  | _ => prodE S x
theorem wrongE_at {S : DagS} {x : TermC} {k : Nat} (hk : k < 5) (h0 : ∀ j, j < k → errs S x j = 0) (h1 : errs S x k ≠ 0) : wrongE S x = errs S x k := by
  unfold wrongE
  match k, hk with
  | 0, _ => rw [if_pos (show headE S.funs.length x ≠ 0 from h1)]; rfl
  | 1, _ => rw [if_neg (fun q => q (h0 0 (by omega))), if_pos (show kidsE S x ≠ 0 from h1)]; rfl
  | 2, _ => rw [if_neg (fun q => q (h0 0 (by omega))), if_neg (fun q => q (h0 1 (by omega))), if_pos (show countE S x ≠ 0 from h1)]; rfl
  | 3, _ => rw [if_neg (fun q => q (h0 0 (by omega))), if_neg (fun q => q (h0 1 (by omega))), if_neg (fun q => q (h0 2 (by omega))), if_pos (show sortE S x ≠ 0 from h1)]; rfl
  | 4, _ => rw [if_neg (fun q => q (h0 0 (by omega))), if_neg (fun q => q (h0 1 (by omega))), if_neg (fun q => q (h0 2 (by omega))), if_neg (fun q => q (h0 3 (by omega)))]; rfl
theorem wrongE_none {S : DagS} {x : TermC} (h0 : ∀ j, j < 5 → errs S x j = 0) : wrongE S x = 0 := by
  unfold wrongE
  rw [if_neg (fun q => q (h0 0 (by omega))), if_neg (fun q => q (h0 1 (by omega))), if_neg (fun q => q (h0 2 (by omega))), if_neg (fun q => q (h0 3 (by omega)))]
  exact h0 4 (by omega)
theorem head_fn {nf : Nat} {x : TermC} (h : headE nf x = 0) (h3 : x.op = 3) : bad nf x.fn = false := by
  cases hb : bad nf x.fn with
  | false => rfl
  | true =>
    unfold headE at h
    split at h
    · cases h
    · split at h
      · cases h
      · split at h
        · cases h
        · rw [if_pos ⟨h3, hb⟩] at h; cases h
theorem kids_ok {S : DagS} {x : TermC} (h : kidsE S x = 0) : ∀ k ∈ x.kids, bad S.terms.length k = false := fun k hk => by
  cases hb : bad S.terms.length k with
  | false => rfl
  | true => unfold kidsE at h; rw [if_pos (any_mem hk hb)] at h; cases h
theorem count_ok {S : DagS} {x : TermC} (h : countE S x = 0) : rightB x.op x.kids.length (funAt S x.fn).args.length = true := by
  unfold countE at h
  split at h
  · assumption
  · cases h
theorem near_of {M : PH} {S : DagS} {v : DagV} {x : TermC} (hS : DagOk M S v) (h : ∀ j, j < 3 → errs S x j = 0) : Near S v x :=
  ⟨fun h3 => hS.fn ▸ head_fn (h 0 (by omega)) h3, hS.tn ▸ kids_ok (h 1 (by omega)), count_ok (h 2 (by omega))⟩
theorem same_hash {x y : TermC} (h : sameT x y = true) : hashT x = hashT y := by
  unfold sameT at h
  simp at h
  obtain ⟨⟨⟨h1, h2⟩, h3⟩, h4⟩ := h
  unfold hashT
  rw [h1, h2, h3, h4]
theorem bucket_mem {n i : Nat} {hs : List Int} {p : Int} : p ∈ bucketOf n hs i ↔ ∃ m : Nat, p = m ∧ m < hs.length ∧ hix (hs.getD m 0) n = i := by
  unfold bucketOf
  simp only [List.mem_map, List.mem_filter, List.mem_range, decide_eq_true_eq]
  constructor
  · rintro ⟨m, ⟨h1, h2⟩, rfl⟩; exact ⟨m, rfl, h1, h2⟩
  · rintro ⟨m, rfl, h1, h2⟩; exact ⟨m, ⟨h1, h2⟩, rfl⟩
theorem bucket_sorted (n i : Nat) (hs : List Int) : (bucketOf n hs i).Pairwise (· < ·) := by
  unfold bucketOf
  refine List.Pairwise.map _ (fun a b h => by omega) ((List.pairwise_lt_range).filter _)
def checks (t : Nat) : List (List Value) := [[.func (.func 56) #[.pointer (some ⟨t, 0, none⟩)] #[]], [.func (.func 57) #[.pointer (some ⟨t, 0, none⟩)] #[]], [.func (.func 58) #[.pointer (some ⟨t, 0, none⟩)] #[]],
  [.func (.func 59) #[.pointer (some ⟨t, 0, none⟩)] #[]], [.func (.func 60) #[.pointer (some ⟨t, 0, none⟩)] #[]]]
theorem nth_place {i : Nat} : ∀ {is : List Nat} {n l : List HP}, is.contains i = false → n.length = is.length → i < l.length → nth (place is n l) i = nth l i
  | [], n, l, _, _, hl => by simp only [place]; rw [nth_eq, nth_eq, List.getElem?_append_left hl]
  | _ :: _, [], _, _, h, _ => by simp at h
  | j :: is, c :: n, l, hc, hn, hl => by
    simp only [List.contains_cons, Bool.or_eq_false_iff, beq_eq_false_iff_ne] at hc
    simp only [place]
    rw [nth_place hc.2 (by simpa using hn) (by simpa using hl), nth_set_ne (Ne.symm hc.1)]
/-- What was laid is what is there. -/
theorem pick_place : ∀ {is : List Nat} {n l : List HP}, okAt is l.length = true → n.length = is.length → pick is (place is n l) = n
  | [], n, _, _, hn => (List.eq_nil_of_length_eq_zero (by simpa using hn)).symm
  | _ :: _, [], _, _, h => by simp at h
  | i :: is, c :: n, l, hok, hn => by
    simp only [okAt, Bool.and_eq_true, decide_eq_true_eq, Bool.not_eq_true'] at hok
    obtain ⟨⟨h1, h2⟩, h3⟩ := hok
    have e1 := nth_place (n := n) (l := l.set i c) h2 (by simpa using hn) (by simpa using h1)
    simp only [pick, place]
    rw [e1, nth_set_self h1, pick_place (by simpa using h3) (by simpa using hn)]
theorem DagOk.up {M M2 : PH} {S : DagS} {v : DagV} (h : DagOk M S v) (hm : le M M2) : DagOk M2 S v :=
  { h with sorts := fun s hs => rowIn.up hm (h.sorts s hs), funs := fun f hf => rowIn.up hm (h.funs f hf), terms := fun t ht => rowIn.up hm (h.terms t ht) }
theorem TermC.Ok.up {M M2 : PH} {x : TermC} (h : x.Ok M) (hm : le M M2) : x.Ok M2 := rowIn.up hm h
/-- The first place of a term. -/
def FirstAt (S : DagS) (x : TermC) (m : Nat) : Prop := (∃ y, S.terms[m]? = some y ∧ sameT y x = true) ∧ ∀ j z, j < m → S.terms[j]? = some z → sameT z x = false
theorem first_of {S : DagS} {x : TermC} {n : Nat} {l : List Int} {j m : Nat} {y : TermC} (hl : l = bucketOf n (S.terms.map hashT) (hix (hashT x) n)) (hj : l[j]? = some (m : Int)) (hy : S.terms[m]? = some y) (hs : sameT y x = true)
    (hb : ∀ j' p z, j' < j → l[j']? = some p → S.terms[p.toNat]? = some z → sameT z x = false) : FirstAt S x m := by
  refine ⟨⟨y, hy, hs⟩, fun k z hk hz => ?_⟩
  cases hsz : sameT z x with
  | false => rfl
  | true =>
    exfalso
    have hkl : k < S.terms.length := (List.getElem?_eq_some_iff.1 hz).1
    have hmem : (k : Int) ∈ l := by
      rw [hl, bucket_mem]
      refine ⟨k, rfl, by simpa using hkl, ?_⟩
      rw [List.getD_eq_getElem?_getD, List.getElem?_map, hz, Option.map_some, Option.getD_some, same_hash hsz]
    obtain ⟨j', hj', he⟩ := List.getElem_of_mem hmem
    have hlt : j' < j := by
      have hsrt : l.Pairwise (· < ·) := hl ▸ bucket_sorted _ _ _
      obtain ⟨hjl, hje⟩ := List.getElem?_eq_some_iff.1 hj
      rcases Nat.lt_trichotomy j' j with h | h | h
      · exact h
      · subst h; rw [he] at hje; omega
      · have := List.pairwise_iff_getElem.1 hsrt j j' hjl hj' h
        rw [he, hje] at this; omega
    have := hb j' k z hlt (by rw [List.getElem?_eq_getElem hj', he]) (by simpa using hz)
    rw [hsz] at this; cases this
theorem none_of {S : DagS} {x : TermC} {n : Nat} {l : List Int} (hl : l = bucketOf n (S.terms.map hashT) (hix (hashT x) n)) (hb : ∀ j' p z, j' < l.length → l[j']? = some p → S.terms[p.toNat]? = some z → sameT z x = false) : ∀ z ∈ S.terms, sameT z x = false := fun z hz => by
  cases hsz : sameT z x with
  | false => rfl
  | true =>
    exfalso
    obtain ⟨k, hk, he⟩ := List.getElem_of_mem hz
    have hmem : (k : Int) ∈ l := by
      rw [hl, bucket_mem]
      refine ⟨k, rfl, by simpa using hk, ?_⟩
      rw [List.getD_eq_getElem?_getD, List.getElem?_map, List.getElem?_eq_getElem hk, he, Option.map_some, Option.getD_some, same_hash hsz]
    obtain ⟨j', hj', he'⟩ := List.getElem_of_mem hmem
    have := hb j' k z hj' (by rw [List.getElem?_eq_getElem hj', he']) (by simp [List.getElem?_eq_getElem hk, he])
    rw [hsz] at this; cases this


set_option maxRecDepth 10000 in
set_option maxHeartbeats 4000000 in
theorem term_any (t : Nat) (S : DagS) (v : DagV) (M : PH) (hS : DagOk M S v) (x : TermC) (hxl : x.kids.length = x.n) (hn : x.n ≤ 1000000) (hnum : x.num.size ≤ 1000000) (hB : Bucks v.bn (S.terms.map hashT) S.bucks) (hbn : 0 < v.bn ∧ v.bn ≤ 10000000) (htn : v.tn ≤ 1048576) (hT : ∀ y ∈ S.terms, y.Ok M ∧ y.n ≤ 1000000 ∧ y.num.size ≤ 1000000) :
    FS Tryd.prog 19 [.pointer (some ⟨t, 0, none⟩), termVal x] (rd x.a x.n 1 (x.kids.map intCells)) [blk t [.int .i64 S.most, .slice v.sa v.sn v.sc, .map (some v.m), .slice v.fa v.fn v.fc, .slice v.ta v.tn v.tc, .slice v.oa v.on v.oc, .slice v.ca v.cn v.cc, .slice v.ba v.bn v.bc] 97, row v.sa v.sn v.sc 57 2 (S.sorts.map sortCells), mapc Value.string v.m (sortPlaces 0 S.sorts), row v.fa v.fn v.fc 38 3 (S.funs.map funCells), row v.ta v.tn v.tc 30 4 (S.terms.map termCells), row v.oa v.on v.oc 3 1 (S.of.map intCells), row v.ca v.cn v.cc 4 1 (S.cons.map boolCells), row v.ba v.bn v.bc 28 1 ((S.bucks).map buckCells), star ((S.bucks).map buckRow), imm M] (fun r H => (wrongE S x ≠ 0 ∧ r = .tuple #[.int .i64 0, .int .i64 (wrongE S x)] ∧ H = dagR t S v M) ∨ (wrongE S x = 0 ∧ ∃ m, FirstAt S x m ∧ r = .tuple #[.int .i64 m, .int .i64 0] ∧ H = dagR t S v M) ∨ (wrongE S x = 0 ∧ (∀ z ∈ S.terms, sameT z x = false) ∧ S.most ≤ v.tn ∧ r = .tuple #[.int .i64 0, .int .i64 4] ∧ H = dagR t S v M) ∨ (wrongE S x = 0 ∧ (∀ z ∈ S.terms, sameT z x = false) ∧ v.tn < S.most ∧ ∃ a2 c2 M2 q B, le M M2 ∧ rowIn M2 a2 x.n c2 x.kids ∧ Bucks q.bn ((S.terms ++ [{ x with a := a2, c := c2 }]).map hashT) B ∧ q.bn = (if v.tn + 1 ≤ v.bn then v.bn else 2 * v.bn) ∧ r = .tuple #[.int .i64 v.tn, .int .i64 0] ∧ H = dagR t (termPut S { x with a := a2, c := c2 } B) (termV v q) M2)) := by
  refine FS.intro (N := 85) Tryd.func19 rfl rfl rfl (fun F w0 hF => ?_)
  have hK := hF
  refine CW.seq ?_
  refine CW.region ?_
  refine OL.box rfl rfl rfl (fun b3 => ⟨rfl, rfl, ?_⟩)
  refine OL.q (Y.assign rfl) rfl ?_
  refine OL.q (Y.assign rfl) rfl ?_
  refine OL.nil ?_
  refine EX.seq ?_
  refine CW.seq ?_
  refine CW.seq ?_
  refine CW.region ?_
  refine OL.q (Y.move rfl) rfl ?_
  refine OL.q (Y.makeFunc rfl) rfl ?_
  refine OL.q (Y.move rfl) rfl ?_
  refine OL.q (Y.makeFunc rfl) rfl ?_
  refine OL.q (Y.move rfl) rfl ?_
  refine OL.q (Y.makeFunc rfl) rfl ?_
  refine OL.q (Y.move rfl) rfl ?_
  refine OL.q (Y.makeFunc rfl) rfl ?_
  refine OL.q (Y.move rfl) rfl ?_
  refine OL.q (Y.makeFunc rfl) rfl ?_
  refine OL.buildSlice (checks t) Tryd.underlying102 C101 (by decide) rfl (by decide) rfl rfl rfl (fun b22 => ⟨rfl, rfl, ?_⟩)
  refine OL.q (Y.lenSl Tryd.underlying102 rfl) rfl ?_
  refine OL.q (Y.move rfl) rfl ?_
  refine OL.nil ?_
  refine EX.seq ?_
  refine CW.block ?_
  generalize hbb : b3 = bb
  generalize hfb : b22 = fb
  refine CW.loop (α := Nat) ⟨fun k => k ≤ 5 ∧ ∀ j, j < k → errs S x j = 0, fun k => [(0, .pointer (some ⟨t, 0, none⟩)), (3, .pointer (some ⟨bb, 0, none⟩)), (22, .slice (some ⟨fb, 0, none⟩) 5 5), (23, .int .i64 5), (24, .int .i64 k)], fun _ => [blk t [.int .i64 S.most, .slice v.sa v.sn v.sc, .map (some v.m), .slice v.fa v.fn v.fc, .slice v.ta v.tn v.tc, .slice v.oa v.on v.oc, .slice v.ca v.cn v.cc, .slice v.ba v.bn v.bc] 97, row v.sa v.sn v.sc 57 2 (S.sorts.map sortCells), mapc Value.string v.m (sortPlaces 0 S.sorts), row v.fa v.fn v.fc 38 3 (S.funs.map funCells), row v.ta v.tn v.tc 30 4 (S.terms.map termCells), row v.oa v.on v.oc 3 1 (S.of.map intCells), row v.ca v.cn v.cc 4 1 (S.cons.map boolCells), row v.ba v.bn v.bc 28 1 ((S.bucks).map buckCells), star ((S.bucks).map buckRow), imm M, blk bb (termCells x) 30, row (some ⟨fb, 0, none⟩) 5 5 101 1 (checks t)]⟩
    (fun k => 5 - k) 0 [0, 1, 2, 3, 4, 5, 6, 7, 8, 9, 10, 11] ⟨Nat.zero_le _, fun j h => absurd h (Nat.not_lt_zero _)⟩ ⟨rfl, rfl, rfl, rfl, rfl, trivial⟩ rfl rfl ?_
  rintro k ⟨hk, hz⟩
  dsimp only at hk hz ⊢
  refine CW.seq ?_
  refine CW.region ?_
  refine OL.q (Y.lss rfl rfl) rfl ?_
  refine OL.nil ?_
  refine EX.seq ?_
  refine CW.seq ?_
  refine CW.cond rfl (fun h0 => ?_) (fun h0 => ?_)
  · repeat (first | replace h0 := yes h0 | replace h0 := no h0 | replace h0 := nyes h0 | replace h0 := nno h0)
    refine CW.skip ?_
    refine EX.seq ?_
    refine CW.seq ?_
    refine CW.block ?_
    refine CW.seq ?_
    rcases (show k = 0 ∨ k = 1 ∨ k = 2 ∨ k = 3 ∨ k = 4 by omega) with rfl | rfl | rfl | rfl | rfl
    · skip
      refine CW.region ?_
      refine OL.q (Y.index (k := 0) Tryd.underlying102 C101 rfl rfl (Ent.at 11 rfl (Up.rd _ _ _ _) row_rd) rfl (by omega)) rfl ?_
      refine OL.q (Y.load T101 rfl (cellsIs_at0 (rd_at (Ent.at 11 rfl (Up.rd _ _ _ _) row_rd) (show (checks t)[0]? = some _ from rfl)) rfl)) rfl ?_
      refine OL.q (Y.assign rfl) rfl ?_
      refine OL.nil ?_
      refine EX.seq ?_
      refine CW.seq ?_
      refine CW.region ?_
      refine OL.q (Y.move rfl) rfl ?_
      refine OL.q (Y.loadN S30 rfl rfl (Ent.at 10 rfl (Up.cellsIs _ _ _) blk_cells)) rfl ?_
      refine OL.callV (first := #[.pointer (some ⟨t, 0, none⟩)]) (vs := [termVal x]) [] (wrongHead_any t S v M x) Tryd.call56 rfl rfl rfl rfl (Ent.star [0, 1, 2, 3, 4, 5, 6, 7, 8, 9] rfl rfl) rfl ?_
      rintro _ _ ⟨rfl, rfl⟩
      refine ⟨rfl, rfl, ?_⟩
      refine OL.q (Y.assign rfl) rfl ?_
      refine OL.nil ?_
      refine EX.seq ?_
      refine CW.seq ?_
      refine CW.region ?_
      refine OL.q (Y.move rfl) rfl ?_
      refine OL.q (Y.neq rfl rfl) rfl ?_
      refine OL.nil ?_
      refine EX.seq ?_
      refine CW.cond rfl (fun h1 => ?_) (fun h1 => ?_)
      · repeat (first | replace h1 := yes h1 | replace h1 := no h1 | replace h1 := nyes h1 | replace h1 := nno h1)
        have he : errs S x 0 = headE v.fn x := by show headE S.funs.length x = _; rw [hS.fn]
        rw [← he] at h1
        rw [← he, ← wrongE_at (by omega) hz h1]
        refine CW.seq ?_
        refine CW.region ?_
        refine OL.q (Y.move rfl) rfl ?_
        refine OL.q (Y.assign rfl) rfl ?_
        refine OL.q (Y.assign rfl) rfl ?_
        refine OL.nil ?_
        refine EX.seq ?_
        refine CW.ret ?_
        refine EX.retB ?_
        refine EX.retT ?_
        refine EX.retT ?_
        refine EX.retB ?_
        refine EX.retT ?_
        exact EX.fin2 [0, 1, 2, 3, 4, 5, 6, 7, 8, 9] rfl rfl rfl rfl (.inl ⟨by rw [wrongE_at (by omega) hz h1]; exact h1, rfl, rfl⟩)
      · repeat (first | replace h1 := yes h1 | replace h1 := no h1 | replace h1 := nyes h1 | replace h1 := nno h1)
        have he : errs S x 0 = headE v.fn x := by show headE S.funs.length x = _; rw [hS.fn]
        
        refine CW.skip ?_
        refine EX.norB ?_
        refine EX.seq ?_
        refine CW.region ?_
        refine OL.q (Y.add1 rfl rfl rfl (by omega)) rfl ?_
        refine OL.q (Y.move rfl) rfl ?_
        refine OL.nil ?_
        exact EX.next 1 [0, 1, 2, 3, 4, 5, 6, 7, 8, 9, 10, 11] (show 1 ≤ 5 ∧ ∀ j, j < 1 → errs S x j = 0 from ⟨by omega, fun j hj => by
          by_cases e : j = 0
          · rw [e, he]; omega
          · exact hz j (by omega)⟩) (show 5 - 1 < 5 - 0 by omega) ⟨rfl, rfl, rfl, rfl, rfl, trivial⟩ rfl rfl
    · skip
      refine CW.region ?_
      refine OL.q (Y.index (k := 1) Tryd.underlying102 C101 rfl rfl (Ent.at 11 rfl (Up.rd _ _ _ _) row_rd) rfl (by omega)) rfl ?_
      refine OL.q (Y.load T101 rfl (cellsIs_at0 (rd_at (Ent.at 11 rfl (Up.rd _ _ _ _) row_rd) (show (checks t)[1]? = some _ from rfl)) rfl)) rfl ?_
      refine OL.q (Y.assign rfl) rfl ?_
      refine OL.nil ?_
      refine EX.seq ?_
      refine CW.seq ?_
      refine CW.region ?_
      refine OL.q (Y.move rfl) rfl ?_
      refine OL.q (Y.loadN S30 rfl rfl (Ent.at 10 rfl (Up.cellsIs _ _ _) blk_cells)) rfl ?_
      refine OL.callV (first := #[.pointer (some ⟨t, 0, none⟩)]) (vs := [termVal x]) [] (wrongKids_any t S v M hS x hxl hn) Tryd.call57 rfl rfl rfl rfl (Ent.and (Ent.star [0, 1, 2, 3, 4, 5, 6, 7, 8, 9] rfl rfl) (Ent.frame (Up.rd _ _ _ _) hK)) rfl ?_
      rintro _ _ ⟨rfl, rfl⟩
      refine ⟨rfl, rfl, ?_⟩
      refine OL.q (Y.assign rfl) rfl ?_
      refine OL.nil ?_
      refine EX.seq ?_
      refine CW.seq ?_
      refine CW.region ?_
      refine OL.q (Y.move rfl) rfl ?_
      refine OL.q (Y.neq rfl rfl) rfl ?_
      refine OL.nil ?_
      refine EX.seq ?_
      refine CW.cond rfl (fun h1 => ?_) (fun h1 => ?_)
      · repeat (first | replace h1 := yes h1 | replace h1 := no h1 | replace h1 := nyes h1 | replace h1 := nno h1)
        have he : errs S x 1 = kidsE S x := rfl
        rw [← he] at h1
        rw [← he, ← wrongE_at (by omega) hz h1]
        refine CW.seq ?_
        refine CW.region ?_
        refine OL.q (Y.move rfl) rfl ?_
        refine OL.q (Y.assign rfl) rfl ?_
        refine OL.q (Y.assign rfl) rfl ?_
        refine OL.nil ?_
        refine EX.seq ?_
        refine CW.ret ?_
        refine EX.retB ?_
        refine EX.retT ?_
        refine EX.retT ?_
        refine EX.retB ?_
        refine EX.retT ?_
        exact EX.fin2 [0, 1, 2, 3, 4, 5, 6, 7, 8, 9] rfl rfl rfl rfl (.inl ⟨by rw [wrongE_at (by omega) hz h1]; exact h1, rfl, rfl⟩)
      · repeat (first | replace h1 := yes h1 | replace h1 := no h1 | replace h1 := nyes h1 | replace h1 := nno h1)
        have he : errs S x 1 = kidsE S x := rfl
        
        refine CW.skip ?_
        refine EX.norB ?_
        refine EX.seq ?_
        refine CW.region ?_
        refine OL.q (Y.add1 rfl rfl rfl (by omega)) rfl ?_
        refine OL.q (Y.move rfl) rfl ?_
        refine OL.nil ?_
        exact EX.next 2 [0, 1, 2, 3, 4, 5, 6, 7, 8, 9, 10, 11] (show 2 ≤ 5 ∧ ∀ j, j < 2 → errs S x j = 0 from ⟨by omega, fun j hj => by
          by_cases e : j = 1
          · rw [e, he]; omega
          · exact hz j (by omega)⟩) (show 5 - 2 < 5 - 1 by omega) ⟨rfl, rfl, rfl, rfl, rfl, trivial⟩ rfl rfl
    · skip
      refine CW.region ?_
      refine OL.q (Y.index (k := 2) Tryd.underlying102 C101 rfl rfl (Ent.at 11 rfl (Up.rd _ _ _ _) row_rd) rfl (by omega)) rfl ?_
      refine OL.q (Y.load T101 rfl (cellsIs_at0 (rd_at (Ent.at 11 rfl (Up.rd _ _ _ _) row_rd) (show (checks t)[2]? = some _ from rfl)) rfl)) rfl ?_
      refine OL.q (Y.assign rfl) rfl ?_
      refine OL.nil ?_
      refine EX.seq ?_
      refine CW.seq ?_
      refine CW.region ?_
      refine OL.q (Y.move rfl) rfl ?_
      refine OL.q (Y.loadN S30 rfl rfl (Ent.at 10 rfl (Up.cellsIs _ _ _) blk_cells)) rfl ?_
      refine OL.callV (first := #[.pointer (some ⟨t, 0, none⟩)]) (vs := [termVal x]) [] (wrongCount_any t S v M hS x hxl hn (fun h => by have h9 : headE S.funs.length x = 0 := hz 0 (by omega); rw [hS.fn] at h9; exact head_fn h9 h)) Tryd.call58 rfl rfl rfl rfl (Ent.and (Ent.star [0, 1, 2, 3, 4, 5, 6, 7, 8, 9] rfl rfl) (Ent.frame (Up.rd _ _ _ _) hK)) rfl ?_
      rintro _ _ ⟨rfl, rfl⟩
      refine ⟨rfl, rfl, ?_⟩
      refine OL.q (Y.assign rfl) rfl ?_
      refine OL.nil ?_
      refine EX.seq ?_
      refine CW.seq ?_
      refine CW.region ?_
      refine OL.q (Y.move rfl) rfl ?_
      refine OL.q (Y.neq rfl rfl) rfl ?_
      refine OL.nil ?_
      refine EX.seq ?_
      refine CW.cond rfl (fun h1 => ?_) (fun h1 => ?_)
      · repeat (first | replace h1 := yes h1 | replace h1 := no h1 | replace h1 := nyes h1 | replace h1 := nno h1)
        have he : errs S x 2 = countE S x := rfl
        rw [← he] at h1
        rw [← he, ← wrongE_at (by omega) hz h1]
        refine CW.seq ?_
        refine CW.region ?_
        refine OL.q (Y.move rfl) rfl ?_
        refine OL.q (Y.assign rfl) rfl ?_
        refine OL.q (Y.assign rfl) rfl ?_
        refine OL.nil ?_
        refine EX.seq ?_
        refine CW.ret ?_
        refine EX.retB ?_
        refine EX.retT ?_
        refine EX.retT ?_
        refine EX.retB ?_
        refine EX.retT ?_
        exact EX.fin2 [0, 1, 2, 3, 4, 5, 6, 7, 8, 9] rfl rfl rfl rfl (.inl ⟨by rw [wrongE_at (by omega) hz h1]; exact h1, rfl, rfl⟩)
      · repeat (first | replace h1 := yes h1 | replace h1 := no h1 | replace h1 := nyes h1 | replace h1 := nno h1)
        have he : errs S x 2 = countE S x := rfl
        
        refine CW.skip ?_
        refine EX.norB ?_
        refine EX.seq ?_
        refine CW.region ?_
        refine OL.q (Y.add1 rfl rfl rfl (by omega)) rfl ?_
        refine OL.q (Y.move rfl) rfl ?_
        refine OL.nil ?_
        exact EX.next 3 [0, 1, 2, 3, 4, 5, 6, 7, 8, 9, 10, 11] (show 3 ≤ 5 ∧ ∀ j, j < 3 → errs S x j = 0 from ⟨by omega, fun j hj => by
          by_cases e : j = 2
          · rw [e, he]; omega
          · exact hz j (by omega)⟩) (show 5 - 3 < 5 - 2 by omega) ⟨rfl, rfl, rfl, rfl, rfl, trivial⟩ rfl rfl
    · skip
      refine CW.region ?_
      refine OL.q (Y.index (k := 3) Tryd.underlying102 C101 rfl rfl (Ent.at 11 rfl (Up.rd _ _ _ _) row_rd) rfl (by omega)) rfl ?_
      refine OL.q (Y.load T101 rfl (cellsIs_at0 (rd_at (Ent.at 11 rfl (Up.rd _ _ _ _) row_rd) (show (checks t)[3]? = some _ from rfl)) rfl)) rfl ?_
      refine OL.q (Y.assign rfl) rfl ?_
      refine OL.nil ?_
      refine EX.seq ?_
      refine CW.seq ?_
      refine CW.region ?_
      refine OL.q (Y.move rfl) rfl ?_
      refine OL.q (Y.loadN S30 rfl rfl (Ent.at 10 rfl (Up.cellsIs _ _ _) blk_cells)) rfl ?_
      refine OL.callV (first := #[.pointer (some ⟨t, 0, none⟩)]) (vs := [termVal x]) [] (wrongSort_any t S v M hS x hxl hn (near_of hS (fun j h => hz j (by omega)))) Tryd.call59 rfl rfl rfl rfl (Ent.and (Ent.star [0, 1, 2, 3, 4, 5, 6, 7, 8, 9] rfl rfl) (Ent.frame (Up.rd _ _ _ _) hK)) rfl ?_
      rintro _ _ ⟨rfl, rfl⟩
      refine ⟨rfl, rfl, ?_⟩
      refine OL.q (Y.assign rfl) rfl ?_
      refine OL.nil ?_
      refine EX.seq ?_
      refine CW.seq ?_
      refine CW.region ?_
      refine OL.q (Y.move rfl) rfl ?_
      refine OL.q (Y.neq rfl rfl) rfl ?_
      refine OL.nil ?_
      refine EX.seq ?_
      refine CW.cond rfl (fun h1 => ?_) (fun h1 => ?_)
      · repeat (first | replace h1 := yes h1 | replace h1 := no h1 | replace h1 := nyes h1 | replace h1 := nno h1)
        have he : errs S x 3 = sortE S x := rfl
        rw [← he] at h1
        rw [← he, ← wrongE_at (by omega) hz h1]
        refine CW.seq ?_
        refine CW.region ?_
        refine OL.q (Y.move rfl) rfl ?_
        refine OL.q (Y.assign rfl) rfl ?_
        refine OL.q (Y.assign rfl) rfl ?_
        refine OL.nil ?_
        refine EX.seq ?_
        refine CW.ret ?_
        refine EX.retB ?_
        refine EX.retT ?_
        refine EX.retT ?_
        refine EX.retB ?_
        refine EX.retT ?_
        exact EX.fin2 [0, 1, 2, 3, 4, 5, 6, 7, 8, 9] rfl rfl rfl rfl (.inl ⟨by rw [wrongE_at (by omega) hz h1]; exact h1, rfl, rfl⟩)
      · repeat (first | replace h1 := yes h1 | replace h1 := no h1 | replace h1 := nyes h1 | replace h1 := nno h1)
        have he : errs S x 3 = sortE S x := rfl
        
        refine CW.skip ?_
        refine EX.norB ?_
        refine EX.seq ?_
        refine CW.region ?_
        refine OL.q (Y.add1 rfl rfl rfl (by omega)) rfl ?_
        refine OL.q (Y.move rfl) rfl ?_
        refine OL.nil ?_
        exact EX.next 4 [0, 1, 2, 3, 4, 5, 6, 7, 8, 9, 10, 11] (show 4 ≤ 5 ∧ ∀ j, j < 4 → errs S x j = 0 from ⟨by omega, fun j hj => by
          by_cases e : j = 3
          · rw [e, he]; omega
          · exact hz j (by omega)⟩) (show 5 - 4 < 5 - 3 by omega) ⟨rfl, rfl, rfl, rfl, rfl, trivial⟩ rfl rfl
    · skip
      refine CW.region ?_
      refine OL.q (Y.index (k := 4) Tryd.underlying102 C101 rfl rfl (Ent.at 11 rfl (Up.rd _ _ _ _) row_rd) rfl (by omega)) rfl ?_
      refine OL.q (Y.load T101 rfl (cellsIs_at0 (rd_at (Ent.at 11 rfl (Up.rd _ _ _ _) row_rd) (show (checks t)[4]? = some _ from rfl)) rfl)) rfl ?_
      refine OL.q (Y.assign rfl) rfl ?_
      refine OL.nil ?_
      refine EX.seq ?_
      refine CW.seq ?_
      refine CW.region ?_
      refine OL.q (Y.move rfl) rfl ?_
      refine OL.q (Y.loadN S30 rfl rfl (Ent.at 10 rfl (Up.cellsIs _ _ _) blk_cells)) rfl ?_
      refine OL.callV (first := #[.pointer (some ⟨t, 0, none⟩)]) (vs := [termVal x]) [] (wrongProduct_any t S v M hS x hxl hn (near_of hS (fun j h => hz j (by omega)))) Tryd.call60 rfl rfl rfl rfl (Ent.and (Ent.star [0, 1, 2, 3, 4, 5, 6, 7, 8, 9] rfl rfl) (Ent.frame (Up.rd _ _ _ _) hK)) rfl ?_
      rintro _ _ ⟨rfl, rfl⟩
      refine ⟨rfl, rfl, ?_⟩
      refine OL.q (Y.assign rfl) rfl ?_
      refine OL.nil ?_
      refine EX.seq ?_
      refine CW.seq ?_
      refine CW.region ?_
      refine OL.q (Y.move rfl) rfl ?_
      refine OL.q (Y.neq rfl rfl) rfl ?_
      refine OL.nil ?_
      refine EX.seq ?_
      refine CW.cond rfl (fun h1 => ?_) (fun h1 => ?_)
      · repeat (first | replace h1 := yes h1 | replace h1 := no h1 | replace h1 := nyes h1 | replace h1 := nno h1)
        have he : errs S x 4 = prodE S x := rfl
        rw [← he] at h1
        rw [← he, ← wrongE_at (by omega) hz h1]
        refine CW.seq ?_
        refine CW.region ?_
        refine OL.q (Y.move rfl) rfl ?_
        refine OL.q (Y.assign rfl) rfl ?_
        refine OL.q (Y.assign rfl) rfl ?_
        refine OL.nil ?_
        refine EX.seq ?_
        refine CW.ret ?_
        refine EX.retB ?_
        refine EX.retT ?_
        refine EX.retT ?_
        refine EX.retB ?_
        refine EX.retT ?_
        exact EX.fin2 [0, 1, 2, 3, 4, 5, 6, 7, 8, 9] rfl rfl rfl rfl (.inl ⟨by rw [wrongE_at (by omega) hz h1]; exact h1, rfl, rfl⟩)
      · repeat (first | replace h1 := yes h1 | replace h1 := no h1 | replace h1 := nyes h1 | replace h1 := nno h1)
        have he : errs S x 4 = prodE S x := rfl
        
        refine CW.skip ?_
        refine EX.norB ?_
        refine EX.seq ?_
        refine CW.region ?_
        refine OL.q (Y.add1 rfl rfl rfl (by omega)) rfl ?_
        refine OL.q (Y.move rfl) rfl ?_
        refine OL.nil ?_
        exact EX.next 5 [0, 1, 2, 3, 4, 5, 6, 7, 8, 9, 10, 11] (show 5 ≤ 5 ∧ ∀ j, j < 5 → errs S x j = 0 from ⟨by omega, fun j hj => by
          by_cases e : j = 4
          · rw [e, he]; omega
          · exact hz j (by omega)⟩) (show 5 - 5 < 5 - 4 by omega) ⟨rfl, rfl, rfl, rfl, rfl, trivial⟩ rfl rfl
  · repeat (first | replace h0 := yes h0 | replace h0 := no h0 | replace h0 := nyes h0 | replace h0 := nno h0)
    have hk5 : k = 5 := by omega
    subst hk5
    have hnr : Near S v x := near_of hS (fun j h => hz j (by omega))
    have hw0 := wrongE_none hz
    have hh := hash_bd x
    refine CW.exit ?_
    refine EX.exitT ?_
    refine EX.exitT ?_
    refine EX.exitB ?_
    refine EX.seq ?_
    refine CW.seq ?_
    refine CW.region ?_
    refine OL.q (Y.loadN S30 rfl rfl (Ent.at 10 rfl (Up.cellsIs _ _ _) blk_cells)) rfl ?_
    refine OL.call [] (hash_any x ⟨hxl, hn⟩ hnum) Tryd.call24 rfl rfl rfl rfl (Ent.frame (Up.rd _ _ _ _) hK) rfl ?_
    rintro _ _ ⟨rfl, rfl⟩
    refine ⟨rfl, rfl, ?_⟩
    refine OL.q (Y.assign rfl) rfl ?_
    refine OL.nil ?_
    refine EX.seq ?_
    refine CW.seq ?_
    refine CW.seq ?_
    obtain ⟨i, hie⟩ : ∃ i, hix (hashT x) v.bn = i := ⟨_, rfl⟩
    have hil : i < v.bn := by rw [← hie]; exact hix_lt hbn.1
    obtain ⟨b, hb⟩ : ∃ b, S.bucks[i]? = some b := ⟨_, List.getElem?_eq_getElem (by rw [hB.1]; exact hil)⟩
    have hbo := hB.2 i b hb
    obtain ⟨B1, B2, hBe, hB1⟩ := cut_at hb
    have hbi : (B1 ++ b :: B2)[i]? = some b := by rw [← hBe]; exact hb
    have e8 : S.bucks.map buckRow = B1.map buckRow ++ buckRow b :: B2.map buckRow := by rw [hBe]; simp
    have e7 : S.bucks.map buckCells = (B1 ++ b :: B2).map buckCells := by rw [hBe]
    refine CW.read (fun _ : Unit => True) (fun _ => [blk t [.int .i64 S.most, .slice v.sa v.sn v.sc, .map (some v.m), .slice v.fa v.fn v.fc, .slice v.ta v.tn v.tc, .slice v.oa v.on v.oc, .slice v.ca v.cn v.cc, .slice v.ba v.bn v.bc] 97, row v.sa v.sn v.sc 57 2 (S.sorts.map sortCells), mapc Value.string v.m (sortPlaces 0 S.sorts), row v.fa v.fn v.fc 38 3 (S.funs.map funCells), row v.ta v.tn v.tc 30 4 (S.terms.map termCells), row v.oa v.on v.oc 3 1 (S.of.map intCells), row v.ca v.cn v.cc 4 1 (S.cons.map boolCells), row v.ba v.bn v.bc 28 1 ((B1 ++ b :: B2).map buckCells), star (B1.map buckRow), row b.a b.n b.c 3 1 (b.l.map intCells), star (B2.map buckRow), imm M, blk bb (termCells x) 30]) (fun h hs => ⟨(), trivial, ?_⟩) (fun _ _ => ?_)
    · have h2 := hs.picked (is := [0, 1, 2, 3, 4, 5, 6, 7, 8, 9, 10]) rfl
      rw [e8, e7] at h2
      exact star_out (A := [_, _, _, _, _, _, _, _]) (C := imm M :: blk bb (termCells x) 30 :: F) h2
    refine CW.learn (p := b.l.length = b.n) (fun h hs => by
      obtain ⟨_, _, _, _, _, hq, _⟩ := hs.take (i := 9) rfl
      simpa using hq.1) (fun hbl => ?_)
    have hbq := bucketOf_len v.bn (S.terms.map hashT) i
    rw [← hbo, List.length_map, hS.tn] at hbq
    refine CW.drawn [(true, 0), (true, 1), (true, 2), (true, 3), (true, 4), (true, 5), (true, 6), (true, 7), (true, 8), (true, 9), (true, 10), (true, 11), (true, 12), (true, 13), (true, 14), (true, 15)] [] [0, 7] mixed (by kernel_rfl) (by repeat (first | exact PanicOk.body | refine PanicOk.then ?_ | refine PanicOk.block ?_)) (by kernel_rfl) rfl rfl rfl rfl ?_
    refine OL.qt (Y.move rfl) rfl ?_
    refine OL.qt (Y.nilCheck rfl) rfl ?_
    refine OL.qt (Y.field L97_7 rfl) rfl ?_
    refine OL.qt (Y.load T47 rfl (Ent.at 0 rfl (Up.cellIs _ _ _) (blk_cell rfl))) rfl ?_
    refine OL.qt (Y.move rfl) rfl ?_
    refine OL.qt (Y.move rfl) rfl ?_
    refine OL.qt (Y.nilCheck rfl) rfl ?_
    refine OL.qt (Y.field L97_7 rfl) rfl ?_
    refine OL.qt (Y.load T47 rfl (Ent.at 0 rfl (Up.cellIs _ _ _) (blk_cell rfl))) rfl ?_
    refine OL.qt (Y.lenSl Tryd.underlying47 rfl) rfl ?_
    refine OL.qt (Y.conv Tryd.underlying3 Tryd.underlying49 rfl) rfl ?_
    rw [wrap_nat (show v.bn ≤ 100000000 by omega)]
    refine OL.qt (Y.rem rfl rfl (by omega)) rfl ?_
    rw [tmod_hix hh.1, hie]
    refine OL.qt (Y.index (k := i) Tryd.underlying47 C28 rfl rfl (Ent.at 1 rfl (Up.rd _ _ _ _) row_rd) rfl (by omega)) rfl ?_
    refine OL.qt (Y.load T28 rfl (cellsIs_at0 (rd_at (Ent.at 1 rfl (Up.rd _ _ _ _) row_rd) (mget buckCells hbi)) rfl)) rfl ?_
    refine OL.qt (Y.lenSl Tryd.underlying28 rfl) rfl ?_
    refine OL.qt (Y.move rfl) rfl ?_
    refine OL.nil ?_
    refine EX.tail ?_
    refine OL.nil ?_
    refine EX.seq ?_
    refine CW.block ?_
    refine CW.loop (α := Nat) ⟨fun j => j ≤ b.n ∧ ∀ j2 p z, j2 < j → b.l[j2]? = some p → S.terms[p.toNat]? = some z → sameT z x = false, fun j => [(0, .pointer (some ⟨t, 0, none⟩)), (3, .pointer (some ⟨bb, 0, none⟩)), (9, .int .u64 (hashT x)), (50, .slice b.a b.n b.c), (51, .int .i64 b.n), (52, .int .i64 j)], fun _ => [blk t [.int .i64 S.most, .slice v.sa v.sn v.sc, .map (some v.m), .slice v.fa v.fn v.fc, .slice v.ta v.tn v.tc, .slice v.oa v.on v.oc, .slice v.ca v.cn v.cc, .slice v.ba v.bn v.bc] 97, row v.sa v.sn v.sc 57 2 (S.sorts.map sortCells), mapc Value.string v.m (sortPlaces 0 S.sorts), row v.fa v.fn v.fc 38 3 (S.funs.map funCells), row v.ta v.tn v.tc 30 4 (S.terms.map termCells), row v.oa v.on v.oc 3 1 (S.of.map intCells), row v.ca v.cn v.cc 4 1 (S.cons.map boolCells), row v.ba v.bn v.bc 28 1 ((B1 ++ b :: B2).map buckCells), star (B1.map buckRow), row b.a b.n b.c 3 1 (b.l.map intCells), star (B2.map buckRow), imm M, blk bb (termCells x) 30]⟩
      (fun j => b.n - j) 0 [0, 1, 2, 3, 4, 5, 6, 7, 8, 9, 10, 11, 12] ⟨Nat.zero_le _, fun j2 p z h => absurd h (Nat.not_lt_zero _)⟩ ⟨rfl, rfl, rfl, rfl, rfl, rfl, trivial⟩ rfl rfl ?_
    rintro j ⟨hj, hbj⟩
    dsimp only at hj hbj ⊢
    refine CW.seq ?_
    refine CW.region ?_
    refine OL.q (Y.lss rfl rfl) rfl ?_
    refine OL.nil ?_
    refine EX.seq ?_
    refine CW.seq ?_
    refine CW.cond rfl (fun h2 => ?_) (fun h2 => ?_)
    · repeat (first | replace h2 := yes h2 | replace h2 := no h2 | replace h2 := nyes h2 | replace h2 := nno h2)
      obtain ⟨p, hp⟩ : ∃ p, b.l[j]? = some p := ⟨_, List.getElem?_eq_getElem (by omega)⟩
      obtain ⟨m, rfl, hml, _⟩ := bucket_mem.1 (hbo ▸ mem_of hp)
      rw [List.length_map] at hml
      have hmt : m < v.tn := by rw [← hS.tn]; exact hml
      obtain ⟨y, hy⟩ : ∃ y, S.terms[m]? = some y := ⟨_, List.getElem?_eq_getElem hml⟩
      obtain ⟨⟨hyr, hyc, hyl⟩, hyn, hys⟩ := hT y (mem_of hy)
      refine CW.skip ?_
      refine EX.seq ?_
      refine CW.seq ?_
      refine CW.block ?_
      refine CW.seq ?_
      refine CW.region ?_
      refine OL.q (Y.index (k := j) Tryd.underlying28 C3 rfl rfl (Ent.at 9 rfl (Up.rd _ _ _ _) row_rd) (by omega) (by omega)) rfl ?_
      refine OL.q (Y.load T3 rfl (cellsIs_at0 (rd_at (Ent.at 9 rfl (Up.rd _ _ _ _) row_rd) (mget intCells hp)) rfl)) rfl ?_
      refine OL.q (Y.assign rfl) rfl ?_
      refine OL.nil ?_
      refine EX.seq ?_
      refine CW.seq ?_
      refine CW.drawn [(true, 0), (true, 1), (true, 2), (true, 3), (true, 4), (true, 5), (true, 6), (true, 7), (false, 8)] [] [0, 4, 12] mixed (by kernel_rfl) (by repeat (first | exact PanicOk.body | refine PanicOk.then ?_ | refine PanicOk.block ?_)) (by kernel_rfl) rfl rfl rfl rfl ?_
      refine OL.qt (Y.move rfl) rfl ?_
      refine OL.qt (Y.nilCheck rfl) rfl ?_
      refine OL.qt (Y.field L97_4 rfl) rfl ?_
      refine OL.qt (Y.load T60 rfl (Ent.at 0 rfl (Up.cellIs _ _ _) (blk_cell rfl))) rfl ?_
      refine OL.qt (Y.move rfl) rfl ?_
      refine OL.qt (Y.index (k := m) Tryd.underlying60 C30 rfl rfl (Ent.at 1 rfl (Up.rd _ _ _ _) row_rd) rfl hmt) rfl ?_
      refine OL.qt (Y.loadN S30 rfl rfl (rd_at (Ent.at 1 rfl (Up.rd _ _ _ _) row_rd) (mget termCells hy))) rfl ?_
      refine OL.qt (Y.loadN S30 rfl rfl (Ent.at 2 rfl (Up.cellsIs _ _ _) blk_cells)) rfl ?_
      refine OL.call [] (same_any y x hyl hxl (by omega)) Tryd.call61 rfl rfl rfl rfl (Ent.and (Ent.at 11 rfl (Up.rd _ _ _ _) (imm_ent (Up.rd _ _ _ _) hyr)) (Ent.frame (Up.rd _ _ _ _) hK)) rfl ?_
      rintro _ _ ⟨rfl, rfl⟩
      refine ⟨rfl, rfl, ?_⟩
      refine OL.nil ?_
      refine EX.tail ?_
      refine OL.nil ?_
      refine EX.seq ?_
      refine CW.cond rfl (fun h3 => ?_) (fun h3 => ?_)
      · repeat (first | replace h3 := yes h3 | replace h3 := no h3 | replace h3 := nyes h3 | replace h3 := nno h3)
        refine CW.seq ?_
        refine CW.region ?_
        refine OL.q (Y.move rfl) rfl ?_
        refine OL.q (Y.assign rfl) rfl ?_
        refine OL.q (Y.assign rfl) rfl ?_
        refine OL.nil ?_
        refine EX.seq ?_
        refine CW.ret ?_
        refine EX.retB ?_
        refine EX.retT ?_
        refine EX.retT ?_
        refine EX.retB ?_
        refine EX.retT ?_
        refine EX.read (fun _ : Unit => True) (fun _ => dagR t S v M) (fun h hs => ⟨(), trivial, ?_⟩) (fun _ _ => ?_)
        · have h2 := hs.picked (is := [0, 1, 2, 3, 4, 5, 6, 7, 8, 9, 10, 11]) rfl
          have h3 := star_in (A := [_, _, _, _, _, _, _, _]) (C := imm M :: F) (p := buckRow b) h2
          unfold dagR dagL
          rw [e8, e7]
          exact h3
        exact EX.fin2 [0, 1, 2, 3, 4, 5, 6, 7, 8, 9] rfl rfl rfl rfl (.inr (.inl ⟨hw0, m, first_of (n := v.bn) (by rw [hbo, hie]) hp hy h3 hbj, rfl, rfl⟩))
      · repeat (first | replace h3 := yes h3 | replace h3 := no h3 | replace h3 := nyes h3 | replace h3 := nno h3)
        refine CW.skip ?_
        refine EX.norB ?_
        refine EX.seq ?_
        refine CW.region ?_
        refine OL.q (Y.add1 rfl rfl rfl (by omega)) rfl ?_
        refine OL.q (Y.move rfl) rfl ?_
        refine OL.nil ?_
        exact EX.next (j + 1) [0, 1, 2, 3, 4, 5, 6, 7, 8, 9, 10, 11, 12] (show j + 1 ≤ b.n ∧ _ from ⟨by omega, fun j2 p z hj2 hp2 hz2 => by
          by_cases e : j2 = j
          · subst e
            rw [hp] at hp2; cases hp2
            rw [Int.toNat_natCast, hy] at hz2; cases hz2
            exact h3
          · exact hbj j2 p z (by omega) hp2 hz2⟩) (show b.n - (j + 1) < b.n - j by omega) ⟨rfl, rfl, rfl, rfl, rfl, rfl, trivial⟩ rfl rfl
    · repeat (first | replace h2 := yes h2 | replace h2 := no h2 | replace h2 := nyes h2 | replace h2 := nno h2)
      have hnone : ∀ z ∈ S.terms, sameT z x = false := none_of (n := v.bn) (l := b.l) (by rw [hbo, hie]) (fun j2 p z h => hbj j2 p z (by omega))
      refine CW.exit ?_
      refine EX.exitT ?_
      refine EX.exitT ?_
      refine EX.exitB ?_
      refine EX.seq ?_
      refine CW.seq ?_
      refine CW.seq ?_
      refine CW.drawn [(true, 0), (true, 1), (true, 2), (true, 3), (true, 4), (true, 5), (true, 6), (true, 7), (true, 8), (true, 9)] [] [0] mixed (by kernel_rfl) (by repeat (first | exact PanicOk.body | refine PanicOk.then ?_ | refine PanicOk.block ?_)) (by kernel_rfl) rfl rfl rfl rfl ?_
      refine OL.qt (Y.move rfl) rfl ?_
      refine OL.qt (Y.nilCheck rfl) rfl ?_
      refine OL.qt (Y.field L97_4 rfl) rfl ?_
      refine OL.qt (Y.load T60 rfl (Ent.at 0 rfl (Up.cellIs _ _ _) (blk_cell rfl))) rfl ?_
      refine OL.qt (Y.lenSl Tryd.underlying60 rfl) rfl ?_
      refine OL.qt (Y.move rfl) rfl ?_
      refine OL.qt (Y.nilCheck rfl) rfl ?_
      refine OL.qt (Y.field L97_0 rfl) rfl ?_
      refine OL.qt (Y.load T3 rfl (Ent.at 0 rfl (Up.cellIs _ _ _) (blk_cell rfl))) rfl ?_
      refine OL.qt (Y.geq rfl rfl) rfl ?_
      refine OL.nil ?_
      refine EX.tail ?_
      refine OL.nil ?_
      refine EX.seq ?_
      refine CW.cond rfl (fun h4 => ?_) (fun h4 => ?_)
      · repeat (first | replace h4 := yes h4 | replace h4 := no h4 | replace h4 := nyes h4 | replace h4 := nno h4)
        refine CW.seq ?_
        refine CW.region ?_
        refine OL.q (Y.assign rfl) rfl ?_
        refine OL.q (Y.assign rfl) rfl ?_
        refine OL.nil ?_
        refine EX.seq ?_
        refine CW.ret ?_
        refine EX.retT ?_
        refine EX.read (fun _ : Unit => True) (fun _ => dagR t S v M) (fun h hs => ⟨(), trivial, ?_⟩) (fun _ _ => ?_)
        · have h2 := hs.picked (is := [0, 1, 2, 3, 4, 5, 6, 7, 8, 9, 10, 11]) rfl
          have h3 := star_in (A := [_, _, _, _, _, _, _, _]) (C := imm M :: F) (p := buckRow b) h2
          unfold dagR dagL
          rw [e8, e7]
          exact h3
        exact EX.fin2 [0, 1, 2, 3, 4, 5, 6, 7, 8, 9] rfl rfl rfl rfl (.inr (.inr (.inl ⟨hw0, hnone, by omega, rfl, rfl⟩)))
      · repeat (first | replace h4 := yes h4 | replace h4 := no h4 | replace h4 := nyes h4 | replace h4 := nno h4)
        refine CW.skip ?_
        refine EX.seq ?_
        refine CW.seq ?_
        refine CW.read (fun _ : Unit => True) (fun _ => dagR t S v M ++ [blk bb (termCells x) 30]) (fun h hs => ⟨(), trivial, ?_⟩) (fun _ _ => ?_)
        · have h2 := hs.picked (is := [0, 1, 2, 3, 4, 5, 6, 7, 8, 9, 10, 11, 12]) rfl
          have h3 := star_in (A := [_, _, _, _, _, _, _, _]) (C := imm M :: blk bb (termCells x) 30 :: F) (p := buckRow b) h2
          unfold dagR dagL
          rw [e8, e7]
          exact h3
        refine CW.region ?_
        refine OL.q (Y.field L30_2 rfl) rfl ?_
        refine OL.q (Y.load T28 rfl (Ent.at 10 rfl (Up.cellIs _ _ _) (blk_cell rfl))) rfl ?_
        refine OL.call [9] (copied_imm M x.a x.n x.c x.kids hxl (by omega)) Tryd.call55 rfl rfl rfl rfl (Ent.frame (Up.rd _ _ _ _) hK) rfl ?_
        rintro _ _ ⟨a2, c2, M2, hle, hr2, rfl, rfl⟩
        refine ⟨rfl, rfl, ?_⟩
        refine OL.q (Y.field L30_2 rfl) rfl ?_
        refine OL.store 10 rfl C28 rfl rfl rfl rfl rfl ⟨rfl, rfl, ?_⟩
        refine OL.nil ?_
        refine EX.seq ?_
        refine CW.seq ?_
        refine CW.region ?_
        refine OL.q (Y.move rfl) rfl ?_
        refine OL.q (Y.loadN S30 rfl rfl (Ent.at 10 rfl (Up.cellsIs _ _ _) blk_cells)) rfl ?_
        refine OL.q (Y.move rfl) rfl ?_
        refine OL.call [0, 1, 2, 3, 4, 5, 6, 7, 8, 9] (add_any t S v M2 (hS.up hle) { x with a := a2, c := c2 } hr2 ⟨hnr.fn, hnr.kids, hnr.count⟩ hB hbn htn (fun z hz => by
          rcases List.mem_append.1 hz with h | h
          · exact ⟨(hT z h).1.up hle, (hT z h).2⟩
          · rw [List.mem_singleton.1 h]; exact ⟨hr2, hn, hnum⟩)) Tryd.call62 rfl rfl rfl rfl (Ent.nothing _) rfl ?_
        rintro _ _ ⟨q, B, rfl, hBq, hqn, rfl⟩
        refine ⟨rfl, rfl, ?_⟩
        refine OL.q (Y.assign rfl) rfl ?_
        refine OL.q (Y.assign rfl) rfl ?_
        refine OL.nil ?_
        refine EX.seq ?_
        refine CW.ret ?_
        exact EX.fin2 [0, 1, 2, 3, 4, 5, 6, 7, 8, 9] rfl rfl rfl rfl (.inr (.inr (.inr ⟨hw0, hnone, by omega, a2, c2, M2, q, B, hle, hr2, hBq, hqn, rfl, pick_place rfl rfl⟩)))
end Go.Proofs.YtmlnnepgigieaaaDoor
