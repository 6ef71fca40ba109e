/- Code: sequences, tests, loops, ways out; a function's contract from its body. No program here. -/
import Derived.Test.YtmlnnepgigieaaaDoorOwn
namespace Go.Sx

section
variable {cx : Cx} {Q : Exit → Act → World → Prop} {e : Env} {H : List HP}

theorem CW.seq {x y : Code} (h : CW cx x (Exit.then (fun a w => y.wp cx.P Q a w) Q) e H) : CW cx (.seq x y) Q e H := fun a w hs => wp_seq (h a w hs)
theorem CW.skip (h : EX cx .normal Q e H) : CW cx .skip Q e H := fun a w hs => wp_skip (h a w hs)
theorem CW.ret (h : EX cx .ret Q e H) : CW cx .ret Q e H := fun a w hs => wp_ret (h a w hs)
theorem CW.exit {i : Nat} (h : EX cx (.exit i) Q e H) : CW cx (.exit i) Q e H := fun a w hs => wp_exit (h a w hs)
theorem CW.block {i : Nat} {c : Code} (h : CW cx c (Exit.inBlock i Q) e H) : CW cx (.block i c) Q e H := fun a w hs => wp_block (h a w hs)
theorem CW.cond {c : Operand} {x y : Code} {b : Bool} (hc : ev e c = some (.bool b)) (ht : b = true → CW cx x Q e H) (hf : b = false → CW cx y Q e H) : CW cx (.cond c x y) Q e H := fun a w hs =>
  wp_cond_split (ev_eval hs.env hc) (fun h => ht h a w hs) (fun h => hf h a w hs)

/-- Ways out. -/
theorem EX.seq {y : Code} (h : CW cx y Q e H) : EX cx .normal (Exit.then (fun a w => y.wp cx.P Q a w) Q) e H := h
theorem EX.retT {K : Act → World → Prop} (h : EX cx .ret Q e H) : EX cx .ret (Exit.then K Q) e H := h
theorem EX.exitT {K : Act → World → Prop} {i : Nat} (h : EX cx (.exit i) Q e H) : EX cx (.exit i) (Exit.then K Q) e H := h
theorem EX.norB {i : Nat} (h : EX cx .normal Q e H) : EX cx .normal (Exit.inBlock i Q) e H := h
theorem EX.retB {i : Nat} (h : EX cx .ret Q e H) : EX cx .ret (Exit.inBlock i Q) e H := h
theorem EX.exitB {i : Nat} (h : EX cx .normal Q e H) : EX cx (.exit i) (Exit.inBlock i Q) e H := fun a w hs => by
  simp only [Exit.inBlock, if_true]; exact h a w hs
theorem EX.exitO {i j : Nat} (hij : Nat.beq i j = false) (h : EX cx (.exit i) Q e H) : EX cx (.exit i) (Exit.inBlock j Q) e H := fun a w hs => by
  have : i ≠ j := fun e => by subst e; simp at hij
  simp only [Exit.inBlock, if_neg this]; exact h a w hs

/-! what is known, weakened -/
def Sub : Env → Env → Prop
  | [], _ => True
  | (s, v) :: l, e => look e s = some v ∧ Sub l e
theorem Sub.look : ∀ {l e : Env}, Sub l e → ∀ s v, look l s = some v → Sx.look e s = some v
  | [], _, _, _, _, h => nomatch h
  | (s', v') :: l, e, ⟨h1, h2⟩, s, v, h => by
    simp only [Sx.look] at h
    by_cases hs : s' = s
    · subst hs; simp at h; subst h; exact h1
    · have : Nat.beq s' s = false := by
        cases hb : Nat.beq s' s with
        | false => rfl
        | true => exact absurd (Nat.eq_of_beq_eq_true hb) hs
      rw [this] at h
      exact Sub.look h2 s v h
theorem Sat.weak {e' : Env} {H' : List HP} {a : Act} {w : World} (hs : Sat cx e H a w) (he : Sub e' e) (hh : sl (H' ++ cx.F) (hp w)) : Sat cx e' H' a w :=
  ⟨hs.defers, hs.size, fun s v h => hs.env s v (he.look s v h), hs.st, hh⟩

/-- What is known, by a name. -/
theorem CW.peek {c : Code} (h : ∀ p : Env × List HP, p = (e, H) → CW cx c Q p.1 p.2) : CW cx c Q e H := h _ rfl
/-- The heap read otherwise. -/
theorem CW.read {α : Sort _} {c : Code} (p : α → Prop) (H' : α → List HP) (hi : ∀ h, sl (H ++ cx.F) h → ∃ x, p x ∧ sl (H' x ++ cx.F) h) (h : ∀ x, p x → CW cx c Q e (H' x)) : CW cx c Q e H := fun a w hs => by
  obtain ⟨x, hp, hx⟩ := hi _ hs.heap
  exact h x hp a w (hs.heapMono hx)
theorem EX.read {α : Sort _} {x : Exit} (p : α → Prop) (H' : α → List HP) (hi : ∀ h, sl (H ++ cx.F) h → ∃ x, p x ∧ sl (H' x ++ cx.F) h) (h : ∀ y, p y → EX cx x Q e (H' y)) : EX cx x Q e H := fun a w hs => by
  obtain ⟨x, hp, hx⟩ := hi _ hs.heap
  exact h x hp a w (hs.heapMono hx)
theorem OL.read {α : Sort _} {rx : Rx} {rest : List (Bool × Oper)} (p : α → Prop) (H' : α → List HP) (hi : ∀ h, sl (H ++ cx.F) h → ∃ x, p x ∧ sl (H' x ++ cx.F) h) (h : ∀ y, p y → OL cx rx rest e (H' y)) : OL cx rx rest e H := fun a w hs hR => by
  obtain ⟨x, hp, hx⟩ := hi _ hs.heap
  exact h x hp a w (hs.heapMono hx) hR
/-- What follows plainly of the chunks at hand. -/
theorem CW.learn {c : Code} {p : Prop} (hi : Ent (H ++ cx.F) (fun _ => p)) (h : p → CW cx c Q e H) : CW cx c Q e H := fun a w hs => h (hi _ hs.heap) a w hs
theorem EX.learn {x : Exit} {p : Prop} (hi : Ent (H ++ cx.F) (fun _ => p)) (h : p → EX cx x Q e H) : EX cx x Q e H := fun a w hs => h (hi _ hs.heap) a w hs
theorem OL.learn {rx : Rx} {rest : List (Bool × Oper)} {p : Prop} (hi : Ent (H ++ cx.F) (fun _ => p)) (h : p → OL cx rx rest e H) : OL cx rx rest e H := fun a w hs hR => h (hi _ hs.heap) a w hs hR
theorem CW.weak {c : Code} {e' : Env} {H' : List HP} (is : List Nat) (he : Sub e' e) (hok : okAt is H.length = true) (hp' : pick is H = H') (h : CW cx c Q e' H') : CW cx c Q e H := fun a w hs =>
  h a w (hs.weak he (hp' ▸ hs.heap.picked hok))
theorem EX.weak {x : Exit} {e' : Env} {H' : List HP} (is : List Nat) (he : Sub e' e) (hok : okAt is H.length = true) (hp' : pick is H = H') (h : EX cx x Q e' H') : EX cx x Q e H := fun a w hs =>
  h a w (hs.weak he (hp' ▸ hs.heap.picked hok))

/-! loops -/
/-- The state at a loop's head: one of many. -/
structure Inv (α : Type) where
  I : α → Prop
  E : α → Env
  H : α → List HP
def Inv.holds {α : Type} (cx : Cx) (J : Inv α) (a : Act) (w : World) : Prop := ∃ y, J.I y ∧ Sat cx (J.E y) (J.H y) a w
def Inv.less {α : Type} (cx : Cx) (J : Inv α) (μ : α → Nat) (x : α) (a : Act) (w : World) : Prop := ∃ y, J.I y ∧ μ y < μ x ∧ Sat cx (J.E y) (J.H y) a w

theorem least {p : Nat → Prop} (h : ∃ n, p n) : ∃ n, p n ∧ ∀ m, p m → n ≤ m := by
  obtain ⟨n, hn⟩ := h
  induction n using Nat.strongRecOn with
  | _ n ih =>
    by_cases h : ∃ m, m < n ∧ p m
    · obtain ⟨m, hm, hp⟩ := h; exact ih m hm hp
    · exact ⟨n, hn, fun m hm => by
        rcases Nat.lt_or_ge m n with hlt | hge
        · exact absurd ⟨m, hlt, hm⟩ h
        · exact hge⟩

theorem CW.loopAt {α : Type} {body : Code} (J : Inv α) (μ : α → Nat) (round : ∀ x, J.I x → CW cx body (Exit.then (J.less cx μ x) Q) (J.E x) (J.H x)) :
    ∀ x, J.I x → CW cx (.loop body) Q (J.E x) (J.H x) := by
  intro x0 hx0 a0 w0 hs0
  let p (a : Act) (w : World) (n : Nat) : Prop := ∃ y, J.I y ∧ Sat cx (J.E y) (J.H y) a w ∧ μ y = n
  open Classical in
  let m (a : Act) (w : World) : Nat := if h : ∃ n, p a w n then (least h).choose else 0
  refine wp_loop (fun a w => ∃ n, p a w n) m ⟨μ x0, x0, hx0, hs0, rfl⟩ ?_
  intro a w hI
  have hm : m a w = (least hI).choose := by simp only [m]; rw [dif_pos hI]
  have hspec := (least hI).choose_spec
  rw [← hm] at hspec
  obtain ⟨⟨x, hx, hs, hμ⟩, _⟩ := hspec
  refine Code.wp_mono ?_ (round x hx a w hs)
  intro ex a' w' hq
  cases ex with
  | normal =>
    obtain ⟨y, hy, hlt, hs'⟩ := hq
    have hI' : ∃ n, p a' w' n := ⟨μ y, y, hy, hs', rfl⟩
    refine ⟨hI', ?_⟩
    have hm' : m a' w' = (least hI').choose := by simp only [m]; rw [dif_pos hI']
    have := (least hI').choose_spec.2 (μ y) ⟨y, hy, hs', rfl⟩
    rw [← hm'] at this
    omega
  | _ => exact hq

theorem CW.loop {α : Type} {body : Code} (J : Inv α) (μ : α → Nat) (x0 : α) (is : List Nat) (h0 : J.I x0) (he : Sub (J.E x0) e) (hok : okAt is H.length = true) (hH : pick is H = J.H x0)
    (round : ∀ x, J.I x → CW cx body (Exit.then (J.less cx μ x) Q) (J.E x) (J.H x)) : CW cx (.loop body) Q e H :=
  CW.weak is he hok hH (CW.loopAt J μ round x0 h0)

theorem EX.next {α : Type} {J : Inv α} {μ : α → Nat} {x : α} (y : α) (is : List Nat) (hI : J.I y) (hμ : μ y < μ x) (he : Sub (J.E y) e) (hok : okAt is H.length = true) (hH : pick is H = J.H y) :
    EX cx .normal (Exit.then (J.less cx μ x) Q) e H := fun _ _ hs => ⟨y, hI, hμ, hs.weak he (hH ▸ hs.heap.picked hok)⟩

/-! ways that meet -/
theorem CW.cut {α : Type} {x y : Code} (J : Inv α) (hx : CW cx x (Exit.then (J.holds cx) Q) e H) (hy : ∀ z, J.I z → CW cx y Q (J.E z) (J.H z)) : CW cx (.seq x y) Q e H := fun a w hs =>
  wp_seq (Code.wp_mono (fun ex a' w' hq => by
    cases ex with
    | normal => obtain ⟨z, hz, hs'⟩ := hq; exact hy z hz a' w' hs'
    | _ => exact hq) (hx a w hs))
theorem EX.meet {α : Type} {J : Inv α} (y : α) (is : List Nat) (hI : J.I y) (he : Sub (J.E y) e) (hok : okAt is H.length = true) (hH : pick is H = J.H y) :
    EX cx .normal (Exit.then (J.holds cx) Q) e H := fun _ _ hs => ⟨y, hI, hs.weak he (hH ▸ hs.heap.picked hok)⟩
end

theorem mget {α β : Type _} {l : List α} {k : Nat} {x : α} (f : α → β) (h : l[k]? = some x) : (l.map f)[k]? = some (f x) := by simp [h]
theorem sl_row_nil {l : List HP} {h : PH} (el sz : Nat) (hs : sl l h) : sl (row none 0 0 el sz [] :: l) h := (sl_emp hs).head_mono (row_nil el sz)

/-! a function -/
def Post (cx : Cx) (post : Value → List HP → Prop) : Ending → World → Prop := fun en w' => ∃ v H', en = .returned v ∧ post v H' ∧ St cx.w0 w' ∧ sl (H' ++ cx.F) (hp w')

def env0 : Nat → List Value → Env
  | _, [] => []
  | n, v :: l => (n, v) :: env0 (n + 1) l
theorem look_env0 : ∀ (l : List Value) (n s : Nat) (v : Value), look (env0 n l) s = some v → n ≤ s ∧ l[s - n]? = some v
  | [], _, _, _, h => nomatch h
  | x :: l, n, s, v, h => by
    simp only [env0, look] at h
    by_cases hs : n = s
    · subst hs; simp at h; subst h; simp
    · have : Nat.beq n s = false := by
        cases hb : Nat.beq n s with
        | false => rfl
        | true => exact absurd (Nat.eq_of_beq_eq_true hb) hs
      rw [this] at h
      obtain ⟨h1, h2⟩ := look_env0 l (n + 1) s v h
      refine ⟨by omega, ?_⟩
      rw [show s - n = (s - (n + 1)) + 1 by omega, List.getElem?_cons_succ]
      exact h2

theorem FS.intro {P : Program} {f : FuncId} {fn : Func} {c : Code} {args : List Value} {R : HP} {pre : List HP} {post : Value → List HP → Prop} {N : Nat} (hf : P.funcs[f]? = some fn) (hb : fn.body = some c) (hN : fn.ntmps = N) (hlen : Nat.ble args.length N = true)
    (h : ∀ F w0, Ent F R → CW ⟨P, w0, N, F⟩ c (bodyPost P fn (Post ⟨P, w0, N, F⟩ post)) (env0 0 args) pre) : FS P f args R pre post := fun F w hR hs => by
  refine calls_of_wp hf hb (h F w hR _ _ ⟨rfl, ?_, ?_, St.refl w, hs⟩)
  · have := Nat.le_of_ble_eq_true hlen
    simp [hN]; omega
  · intro s v hl
    obtain ⟨_, h2⟩ := look_env0 args 0 s v hl
    rw [Nat.sub_zero] at h2
    have hlt := (List.getElem?_eq_some_iff.1 h2).1
    simp only [Array.getElem?_append, List.size_toArray, hlt, if_true]
    simpa using h2

theorem FS.mono {P : Program} {f : FuncId} {args : List Value} {R : HP} {pre : List HP} {post post' : Value → List HP → Prop} (h : FS P f args R pre post) (hp' : ∀ v H, post v H → post' v H) : FS P f args R pre post' := fun F w hR hs =>
  (h F w hR hs).mono fun _ _ ⟨v, H', h1, h2, h3, h4⟩ => ⟨v, H', h1, hp' _ _ h2, h3, h4⟩

section
variable {cx : Cx} {fn : Func} {post : Value → List HP → Prop} {e : Env} {H : List HP}
theorem EX.fin {x : Exit} {v : Value} (hx : x = .ret ∨ x = .normal) (is : List Nat) (hr : ∀ a w, EnvOk e a → (results fn a.tmps).run cx.P w = .ok v w) (hok : okAt is H.length = true) (hp' : post v (pick is H)) : EX cx x (bodyPost cx.P fn (Post cx post)) e H := fun a w hs => by
  rcases hx with rfl | rfl <;> exact ⟨hs.defers, v, hr a w hs.env, v, _, rfl, hp', hs.st, hs.heap.picked hok⟩
theorem EX.fin1 {t : Nat} {v : Value} (is : List Nat) (hr : fn.results = #[.tmp t]) (hl : look e t = some v) (hok : okAt is H.length = true) (hp' : post v (pick is H)) : EX cx .ret (bodyPost cx.P fn (Post cx post)) e H :=
  EX.fin (.inl rfl) is (fun a w he => by rw [results_tmp hr]; rw [Array.getD_eq_getD_getElem?, he _ _ hl]; rfl) hok hp'
theorem EX.fin2 {t u : Nat} {v v' : Value} (is : List Nat) (hr : fn.results = #[.tmp t, .tmp u]) (hl : look e t = some v) (hl' : look e u = some v') (hok : okAt is H.length = true) (hp' : post (.tuple #[v, v']) (pick is H)) : EX cx .ret (bodyPost cx.P fn (Post cx post)) e H :=
  EX.fin (.inl rfl) is (fun a w he => by rw [results_tmp2 hr]; simp [Array.getD_eq_getD_getElem?, he _ _ hl, he _ _ hl']) hok hp'
theorem EX.fin0 {x : Exit} (hx : x = .ret ∨ x = .normal) (is : List Nat) (hr : fn.results = #[]) (hok : okAt is H.length = true) (hp' : post (.tuple #[]) (pick is H)) : EX cx x (bodyPost cx.P fn (Post cx post)) e H :=
  EX.fin hx is (fun a w _ => by rw [results_none hr]) hok hp'
theorem EX.fin3 {t u s : Nat} {v v' v'' : Value} (is : List Nat) (hr : fn.results = #[.tmp t, .tmp u, .tmp s]) (hl : look e t = some v) (hl' : look e u = some v') (hl'' : look e s = some v'') (hok : okAt is H.length = true) (hp' : post (.tuple #[v, v', v'']) (pick is H)) : EX cx .ret (bodyPost cx.P fn (Post cx post)) e H :=
  EX.fin (.inl rfl) is (fun a w he => by simp [results, hr, Array.getD_eq_getD_getElem?, he _ _ hl, he _ _ hl', he _ _ hl'']) hok hp'
/-- The chunks at a way out, read otherwise. -/
theorem EX.finH {x : Exit} {v : Value} (hx : x = .ret ∨ x = .normal) (hr : ∀ a w, EnvOk e a → (results fn a.tmps).run cx.P w = .ok v w) (H' : List HP) (hi : ∀ h, sl (H ++ cx.F) h → sl (H' ++ cx.F) h) (hp' : post v H') : EX cx x (bodyPost cx.P fn (Post cx post)) e H := fun a w hs => by
  rcases hx with rfl | rfl <;> exact ⟨hs.defers, v, hr a w hs.env, v, _, rfl, hp', hs.st, hi _ hs.heap⟩

theorem PanicOk.body {P : Program} : PanicOk (bodyPost P fn (Post cx post)) := fun _ _ _ _ h => by
  obtain ⟨_, v, H', h1, _⟩ := h
  cases h1
theorem PanicOk.then {K : Act → World → Prop} {Q : Exit → Act → World → Prop} (h : PanicOk Q) : PanicOk (Exit.then K Q) := h
theorem PanicOk.block {i : Nat} {Q : Exit → Act → World → Prop} (h : PanicOk Q) : PanicOk (Exit.inBlock i Q) := h
end
end Go.Sx
