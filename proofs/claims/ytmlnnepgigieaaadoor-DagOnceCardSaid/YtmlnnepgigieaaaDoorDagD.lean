/- Copies of rows; the key of a sort. -/
import Derived.Test.YtmlnnepgigieaaaDoorDagC
import Derived.Test.YtmlnnepgigieaaaDoorArr
namespace Go.Proofs.YtmlnnepgigieaaaDoor
open Go.Sx

theorem T5 : Ty1 Tryd.prog 5 (.int .u8 0) := ⟨Tryd.isAgg5, Tryd.sizeOf5, Tryd.zeroValue5⟩
theorem T49 : Ty1 Tryd.prog 49 (.int .u64 0) := ⟨Tryd.isAgg49, Tryd.sizeOf49, Tryd.zeroValue49⟩
theorem S162 : TyN Tryd.prog 162 24 [.int .u8 0, .int .u8 0, .int .u8 0, .int .u8 0, .int .u8 0, .int .u8 0, .int .u8 0, .int .u8 0, .int .u8 0, .int .u8 0, .int .u8 0, .int .u8 0, .int .u8 0, .int .u8 0, .int .u8 0, .int .u8 0, .int .u8 0, .int .u8 0, .int .u8 0, .int .u8 0, .int .u8 0, .int .u8 0, .int .u8 0, .int .u8 0] := ⟨Tryd.isAgg162, Tryd.sizeOf162, Tryd.zeroValue162, rfl⟩
theorem C5 : TyC Tryd.prog 5 1 [.int .u8 0] := T5.c rfl
theorem C49 : TyC Tryd.prog 49 1 [.int .u64 0] := T49.c rfl
theorem C162 : TyC Tryd.prog 162 24 [.int .u8 0, .int .u8 0, .int .u8 0, .int .u8 0, .int .u8 0, .int .u8 0, .int .u8 0, .int .u8 0, .int .u8 0, .int .u8 0, .int .u8 0, .int .u8 0, .int .u8 0, .int .u8 0, .int .u8 0, .int .u8 0, .int .u8 0, .int .u8 0, .int .u8 0, .int .u8 0, .int .u8 0, .int .u8 0, .int .u8 0, .int .u8 0] := S162.c
theorem E3 : Elt Tryd.prog 3 1 8 [.int .i64 0] := ⟨⟨Tryd.t3, by kernel_rfl, rfl, rfl, _, rfl, rfl⟩, rfl, by decide⟩
theorem E5 : Elt Tryd.prog 5 1 1 [.int .u8 0] := ⟨⟨Tryd.t5, by kernel_rfl, rfl, rfl, _, rfl, rfl⟩, rfl, by decide⟩

theorem copied_row (a : Option Addr) (n c : Nat) (l : List Int) (hn : n ≤ 10000000) :
    FS Tryd.prog 55 [.slice a n c] (rd a n 1 (l.map intCells)) [] (fun r H => ∃ a2 c2, r = .slice a2 n c2 ∧ H = [row a2 n c2 3 1 (l.map intCells)]) := by
  refine FS.intro (N := 5) Tryd.func55 rfl rfl rfl (fun F w0 hF => ?_)
  refine CW.seq ?_
  refine CW.region ?_
  refine OL.q (Y.assign rfl) rfl ?_
  refine OL.nil ?_
  refine EX.seq ?_
  refine CW.seq ?_
  refine CW.nilRow 3 1 ?_
  refine CW.region ?_
  refine OL.q (Y.move rfl) rfl ?_
  refine OL.append (l.map intCells) 0 rfl Tryd.underlying28 E3 rfl rfl (Ent.frame (Up.rd _ _ _ _) hF) (oneRows_map _ (fun _ => rfl) _) (by omega) (by omega) rfl (fun a4 c4 => ⟨rfl, rfl, ?_⟩)
  refine OL.q (Y.assign rfl) rfl ?_
  refine OL.nil ?_
  refine EX.seq ?_
  refine CW.ret ?_
  rw [Nat.zero_add]
  exact EX.fin1 [0] rfl rfl rfl ⟨a4, c4, rfl, rfl⟩


/-- The same, into memory that never turns again. -/
theorem copied_imm (M : PH) (a : Option Addr) (n c : Nat) (l : List Int) (hl : l.length = n) (hn : n ≤ 10000000) :
    FS Tryd.prog 55 [.slice a n c] (rd a n 1 (l.map intCells)) [imm M] (fun r H => ∃ a2 c2 M2, le M M2 ∧ rowIn M2 a2 n c2 l ∧ r = .slice a2 n c2 ∧ H = [imm M2]) := fun F w hR hs =>
  (copied_row a n c l hn (imm M :: F) w (Ent.frame (l := [imm M]) (Up.rd _ _ _ _) hR) hs).mono fun en w2 ⟨v, H2, he, ⟨a2, c2, h1, h2⟩, hst, hh⟩ => by
    subst h2
    obtain ⟨M2, k1, k2, k3⟩ := Go.Sx.freeze (R := fun h => rd a2 n 1 (l.map intCells) h ∧ n ≤ c2) (fun k hk => ⟨row_rd k hk, row_cap hk⟩) (fun _ _ e h => ⟨Up.rd _ _ _ _ _ _ e h.1, h.2⟩) hh
    exact ⟨v, _, he, ⟨a2, c2, M2, k1, ⟨k2.1, k2.2, hl⟩, h1, rfl⟩, hst, k3⟩
def bRows (l : List UInt8) : List (List Value) := l.map fun b => [.int .u8 (b.toNat : Int)]
theorem bRows_app (l m : List UInt8) : bRows (l ++ m) = bRows l ++ bRows m := by simp [bRows]
theorem bRows_of (s : ByteArray) : byteRows s = bRows s.data.toList := rfl
theorem dig4_len (x : Nat) : (dig4 x).length ≤ 4 := by unfold dig4; (repeat' split) <;> simp
def low10 : ByteArray := ⟨#[48, 49, 50, 51, 52, 53, 54, 55, 56, 57, 97, 98, 99, 100, 101, 102, 103, 104, 105, 106, 107, 108, 109, 110, 111, 112, 113, 114, 115, 116, 117, 118, 119, 120, 121, 122]⟩
def smalls : ByteArray := ⟨#[48, 48, 48, 49, 48, 50, 48, 51, 48, 52, 48, 53, 48, 54, 48, 55, 48, 56, 48, 57, 49, 48, 49, 49, 49, 50, 49, 51, 49, 52, 49, 53, 49, 54, 49, 55, 49, 56, 49, 57, 50, 48, 50, 49, 50, 50, 50, 51, 50, 52, 50, 53, 50, 54, 50, 55, 50, 56, 50, 57, 51, 48, 51, 49, 51, 50, 51, 51, 51, 52, 51, 53, 51, 54, 51, 55, 51, 56, 51, 57, 52, 48, 52, 49, 52, 50, 52, 51, 52, 52, 52, 53, 52, 54, 52, 55, 52, 56, 52, 57, 53, 48, 53, 49, 53, 50, 53, 51, 53, 52, 53, 53, 53, 54, 53, 55, 53, 56, 53, 57, 54, 48, 54, 49, 54, 50, 54, 51, 54, 52, 54, 53, 54, 54, 54, 55, 54, 56, 54, 57, 55, 48, 55, 49, 55, 50, 55, 51, 55, 52, 55, 53, 55, 54, 55, 55, 55, 56, 55, 57, 56, 48, 56, 49, 56, 50, 56, 51, 56, 52, 56, 53, 56, 54, 56, 55, 56, 56, 56, 57, 57, 48, 57, 49, 57, 50, 57, 51, 57, 52, 57, 53, 57, 54, 57, 55, 57, 56, 57, 57]⟩
def lenTab : ByteArray := ⟨#[0, 1, 2, 2, 3, 3, 3, 3, 4, 4, 4, 4, 4, 4, 4, 4, 5, 5, 5, 5, 5, 5, 5, 5, 5, 5, 5, 5, 5, 5, 5, 5, 6, 6, 6, 6, 6, 6, 6, 6, 6, 6, 6, 6, 6, 6, 6, 6, 6, 6, 6, 6, 6, 6, 6, 6, 6, 6, 6, 6, 6, 6, 6, 6, 7, 7, 7, 7, 7, 7, 7, 7, 7, 7, 7, 7, 7, 7, 7, 7, 7, 7, 7, 7, 7, 7, 7, 7, 7, 7, 7, 7, 7, 7, 7, 7, 7, 7, 7, 7, 7, 7, 7, 7, 7, 7, 7, 7, 7, 7, 7, 7, 7, 7, 7, 7, 7, 7, 7, 7, 7, 7, 7, 7, 7, 7, 7, 7, 8, 8, 8, 8, 8, 8, 8, 8, 8, 8, 8, 8, 8, 8, 8, 8, 8, 8, 8, 8, 8, 8, 8, 8, 8, 8, 8, 8, 8, 8, 8, 8, 8, 8, 8, 8, 8, 8, 8, 8, 8, 8, 8, 8, 8, 8, 8, 8, 8, 8, 8, 8, 8, 8, 8, 8, 8, 8, 8, 8, 8, 8, 8, 8, 8, 8, 8, 8, 8, 8, 8, 8, 8, 8, 8, 8, 8, 8, 8, 8, 8, 8, 8, 8, 8, 8, 8, 8, 8, 8, 8, 8, 8, 8, 8, 8, 8, 8, 8, 8, 8, 8, 8, 8, 8, 8, 8, 8, 8, 8, 8, 8, 8, 8, 8, 8, 8, 8, 8, 8, 8, 8, 8, 8, 8, 8, 8, 8]⟩
def len64 (x : Nat) : Nat := if 256 ≤ x then 8 + at0 lenTab (x / 256) else at0 lenTab x
def pow10 : List Nat := [1, 10, 100, 1000, 10000, 100000, 1000000, 10000000, 100000000, 1000000000, 10000000000, 100000000000, 1000000000000, 10000000000000, 100000000000000, 1000000000000000, 10000000000000000, 100000000000000000, 1000000000000000000, 10000000000000000000]
/-- The table of the powers of ten, as start-up lays it. -/
def tabP : HP := cellsIs 0 0 (pow10.map fun n : Nat => Value.int .u64 (n : Int))
theorem Up.tabP : Up tabP := Up.cellsIs _ _ _
def numd (x : Nat) : Nat := if x < 10 then 1 else if x < 100 then 2 else if x < 1000 then 3 else 4
theorem lenTab_size : lenTab.size = 256 := by decide +kernel
theorem smalls_size : smalls.size = 200 := by decide +kernel
theorem at0_lt (s : ByteArray) (j : Nat) : at0 s j < 256 := UInt8.toNat_lt _
theorem indexStr0 {P : Program} {HH : List HP} {e : Env} {d : Option Nat} {ty : TypeId} {pos : String} {af : Array Edge} {g : Option (Nat × Bool)} {x y : Operand} {t : TypeId} {ik : IntKind} {s : ByteArray} {i : Int} {k : Nat} (ht : P.underlying t = some .string) (h : ev e x = some (.string s)) (hi : ev e y = some (.int ik i)) (hk : i = k) (hlt : k < s.size) :
    Yv P HH e ⟨d, .index t x y, ty, pos, af, g⟩ (.int .u8 (at0 s k : Nat)) := by
  have h1 := Y.indexStr (P := P) (HH := HH) (d := d) (ty := ty) (pos := pos) (af := af) (g := g) ht h hi hk hlt
  rwa [at0_eq hlt] at h1
theorem all4 {p : Nat → Bool} (h : ∀ a b : Fin 100, p (100 * a.val + b.val) = true) (x : Nat) (hx : x < 10000) : p x = true := by
  have h1 := h ⟨x / 100, by omega⟩ ⟨x % 100, by omega⟩
  rwa [show 100 * (x / 100) + x % 100 = x by omega] at h1
theorem len64_lt (x : Nat) (hx : x < 10000) : len64 x ≤ 14 := of_decide_eq_true (all4 (p := fun x => decide (len64 x ≤ 14)) (by decide +kernel) x hx)
theorem numd_is (x : Nat) (hx : x < 10000) : 1 ≤ x → len64 x * 78913 / 262144 < 20 ∧ len64 x * 78913 / 262144 + (if pow10.getD (len64 x * 78913 / 262144) 0 ≤ x then 1 else 0) = numd x :=
  of_decide_eq_true (all4 (p := fun x => decide (1 ≤ x → len64 x * 78913 / 262144 < 20 ∧ len64 x * 78913 / 262144 + (if pow10.getD (len64 x * 78913 / 262144) 0 ≤ x then 1 else 0) = numd x)) (by decide +kernel) x hx)
theorem dig4_numd (x : Nat) : (dig4 x).length = numd x := by unfold dig4 numd; (repeat' split) <;> simp_all
theorem small_one : ∀ x : Fin 10, (low10.extract x (x + 1)).data.toList = dig4 x := by decide +kernel
theorem small_two : ∀ x : Fin 100, 10 ≤ x.val → (smalls.extract (x * 2) (x * 2 + 2)).data.toList = dig4 x := by decide +kernel
theorem bytes_of {s : ByteArray} {l : List UInt8} (h : s.data.toList = l) : s = ⟨l.toArray⟩ := by
  subst h; rfl


set_option maxRecDepth 10000 in
theorem small_any (x : Nat) (hx : x < 100) :
    FS Tryd.prog 109 [.int .i64 x] (nothing) [] (fun r H => r = .string ⟨(dig4 x).toArray⟩ ∧ H = []) := by
  refine FS.intro (N := 15) Tryd.func109 rfl rfl rfl (fun F w0 hF => ?_)
  refine CW.seq ?_
  refine CW.region ?_
  refine OL.q (Y.assign rfl) rfl ?_
  refine OL.nil ?_
  refine EX.seq ?_
  refine CW.seq ?_
  refine CW.seq ?_
  refine CW.region ?_
  refine OL.q (Y.move rfl) rfl ?_
  refine OL.q (Y.lss rfl rfl) rfl ?_
  refine OL.nil ?_
  refine EX.seq ?_
  refine CW.cond rfl (fun h0 => ?_) (fun h0 => ?_)
  · repeat (first | replace h0 := yes h0 | replace h0 := no h0 | replace h0 := nyes h0 | replace h0 := nno h0)
    refine CW.seq ?_
    refine CW.region ?_
    refine OL.q (Y.move rfl) rfl ?_
    refine OL.q (Y.move rfl) rfl ?_
    refine OL.q (Y.add1 rfl rfl rfl (by omega)) rfl ?_
    refine OL.q (Y.strMid (s := low10) (k := x) (l := x + 1) Tryd.underlying9 rfl rfl rfl rfl (by omega) (by omega) (show x + 1 ≤ low10.size by rw [show low10.size = 36 from rfl]; omega)) rfl ?_
    refine OL.q (Y.assign rfl) rfl ?_
    refine OL.nil ?_
    refine EX.seq ?_
    refine CW.ret ?_
    refine EX.retT ?_
    exact EX.fin1 [] rfl rfl rfl ⟨congrArg Value.string (bytes_of (small_one ⟨x, by omega⟩)), rfl⟩
  · repeat (first | replace h0 := yes h0 | replace h0 := no h0 | replace h0 := nyes h0 | replace h0 := nno h0)
    refine CW.skip ?_
    refine EX.seq ?_
    refine CW.seq ?_
    refine CW.region ?_
    refine OL.q (Y.move rfl) rfl ?_
    refine OL.q (Y.mul rfl rfl (by omega)) rfl ?_
    refine OL.q (Y.move rfl) rfl ?_
    refine OL.q (Y.mul rfl rfl (by omega)) rfl ?_
    refine OL.q (Y.add rfl rfl (by omega)) rfl ?_
    refine OL.q (Y.strMid (s := smalls) (k := x * 2) (l := x * 2 + 2) Tryd.underlying9 rfl rfl rfl (by omega) (by omega) (by omega) (show x * 2 + 2 ≤ smalls.size by rw [show smalls.size = 200 by decide +kernel]; omega)) rfl ?_
    refine OL.q (Y.assign rfl) rfl ?_
    refine OL.nil ?_
    refine EX.seq ?_
    refine CW.ret ?_
    exact EX.fin1 [] rfl rfl rfl ⟨congrArg Value.string (bytes_of (small_two ⟨x, hx⟩ (show 10 ≤ x by omega))), rfl⟩

set_option maxRecDepth 10000 in
theorem len64_any (x : Nat) (hx : x < 10000) :
    FS Tryd.prog 114 [.int .u64 x] (nothing) [] (fun r H => r = .int .i64 (len64 x : Nat) ∧ H = []) := by
  refine FS.intro (N := 25) Tryd.func114 rfl rfl rfl (fun F w0 hF => ?_)
  refine CW.seq ?_
  refine CW.region ?_
  refine OL.q (Y.assign rfl) rfl ?_
  refine OL.nil ?_
  refine EX.seq ?_
  refine CW.seq ?_
  refine CW.seq ?_
  refine CW.region ?_
  refine OL.q (Y.move rfl) rfl ?_
  refine OL.q (Y.geq rfl rfl) rfl ?_
  refine OL.nil ?_
  refine EX.seq ?_
  refine CW.cond rfl (fun h0 => ?_) (fun h0 => ?_)
  · repeat (first | replace h0 := yes h0 | replace h0 := no h0 | replace h0 := nyes h0 | replace h0 := nno h0)
    exfalso
    omega
  repeat (first | replace h0 := yes h0 | replace h0 := no h0 | replace h0 := nyes h0 | replace h0 := nno h0)
  refine CW.skip ?_
  refine EX.seq ?_
  refine CW.seq ?_
  refine CW.seq ?_
  refine CW.region ?_
  refine OL.q (Y.move rfl) rfl ?_
  refine OL.q (Y.geq rfl rfl) rfl ?_
  refine OL.nil ?_
  refine EX.seq ?_
  refine CW.cond rfl (fun h1 => ?_) (fun h1 => ?_)
  · repeat (first | replace h1 := yes h1 | replace h1 := no h1 | replace h1 := nyes h1 | replace h1 := nno h1)
    exfalso
    omega
  repeat (first | replace h1 := yes h1 | replace h1 := no h1 | replace h1 := nyes h1 | replace h1 := nno h1)
  refine CW.skip ?_
  refine EX.seq ?_
  refine CW.seq ?_
  refine CW.seq ?_
  refine CW.region ?_
  refine OL.q (Y.move rfl) rfl ?_
  refine OL.q (Y.geq rfl rfl) rfl ?_
  refine OL.nil ?_
  refine EX.seq ?_
  refine CW.cond rfl (fun h2 => ?_) (fun h2 => ?_)
  · repeat (first | replace h2 := yes h2 | replace h2 := no h2 | replace h2 := nyes h2 | replace h2 := nno h2)
    refine CW.seq ?_
    refine CW.region ?_
    refine OL.q (Y.move rfl) rfl ?_
    refine OL.q (Y.shrN (q := 8) rfl rfl rfl (by decide)) rfl ?_
    refine OL.q (Y.assign rfl) rfl ?_
    refine OL.nil ?_
    refine EX.seq ?_
    refine CW.region ?_
    refine OL.q (Y.move rfl) rfl ?_
    refine OL.q (Y.addN (i := 0) (j := 8) rfl rfl (by omega)) rfl ?_
    refine OL.q (Y.assign rfl) rfl ?_
    refine OL.nil ?_
    refine EX.seq ?_
    refine CW.seq ?_
    refine CW.region ?_
    refine OL.q (Y.move rfl) rfl ?_
    refine OL.q (Y.move rfl) rfl ?_
    refine OL.q (Y.convB (m := x / 2 ^ 8) Tryd.underlying49 Tryd.underlying5 rfl (by omega)) rfl ?_
    refine OL.q (indexStr0 (s := lenTab) (k := x / 2 ^ 8) Tryd.underlying9 rfl rfl rfl (show x / 2 ^ 8 < lenTab.size by rw [lenTab_size]; omega)) rfl ?_
    refine OL.q (Y.convN (.inr (.inr (.inl rfl))) Tryd.underlying5 Tryd.underlying3 rfl (by have := at0_lt lenTab (x / 2 ^ 8); have := at0_lt lenTab x; omega)) rfl ?_
    refine OL.q (Y.addN (i := 8) (j := at0 lenTab (x / 2 ^ 8)) rfl rfl (by have := at0_lt lenTab (x / 2 ^ 8); omega)) rfl ?_
    refine OL.q (Y.assign rfl) rfl ?_
    refine OL.nil ?_
    refine EX.seq ?_
    refine CW.ret ?_
    exact EX.fin1 [] rfl rfl rfl ⟨by unfold len64; rw [if_pos (show 256 ≤ x by omega)], rfl⟩
  · repeat (first | replace h2 := yes h2 | replace h2 := no h2 | replace h2 := nyes h2 | replace h2 := nno h2)
    refine CW.skip ?_
    refine EX.seq ?_
    refine CW.seq ?_
    refine CW.region ?_
    refine OL.q (Y.move rfl) rfl ?_
    refine OL.q (Y.move rfl) rfl ?_
    refine OL.q (Y.convB (m := x) Tryd.underlying49 Tryd.underlying5 rfl (by omega)) rfl ?_
    refine OL.q (indexStr0 (s := lenTab) (k := x) Tryd.underlying9 rfl rfl rfl (show x < lenTab.size by rw [lenTab_size]; omega)) rfl ?_
    refine OL.q (Y.convN (.inr (.inr (.inl rfl))) Tryd.underlying5 Tryd.underlying3 rfl (by have := at0_lt lenTab (x / 2 ^ 8); have := at0_lt lenTab x; omega)) rfl ?_
    refine OL.q (Y.addN (i := 0) (j := at0 lenTab x) rfl rfl (by have := at0_lt lenTab x; omega)) rfl ?_
    refine OL.q (Y.assign rfl) rfl ?_
    refine OL.nil ?_
    refine EX.seq ?_
    refine CW.ret ?_
    exact EX.fin1 [] rfl rfl rfl ⟨by unfold len64; rw [if_neg (show ¬ 256 ≤ x by omega), Nat.zero_add], rfl⟩

theorem log10_any (x : Nat) (hx : x ≤ 64) :
    FS Tryd.prog 113 [.int .i64 x] (nothing) [] (fun r H => r = .int .i64 (x * 78913 / 262144 : Nat) ∧ H = []) := by
  refine FS.intro (N := 6) Tryd.func113 rfl rfl rfl (fun F w0 hF => ?_)
  refine CW.seq ?_
  refine CW.region ?_
  refine OL.q (Y.assign rfl) rfl ?_
  refine OL.nil ?_
  refine EX.seq ?_
  refine CW.seq ?_
  refine CW.region ?_
  refine OL.q (Y.move rfl) rfl ?_
  refine OL.q (Y.mulN (n := 78913) (.inr (.inr (.inl rfl))) rfl rfl rfl (by omega)) rfl ?_
  refine OL.q (Y.shrN (q := 18) rfl rfl rfl (by decide)) rfl ?_
  refine OL.q (Y.assign rfl) rfl ?_
  refine OL.nil ?_
  refine EX.seq ?_
  refine CW.ret ?_
  exact EX.fin1 [] rfl rfl rfl ⟨rfl, rfl⟩

theorem bool2_any (b : Bool) :
    FS Tryd.prog 115 [.bool b] (nothing) [] (fun r H => r = .int .i64 ((if b then 1 else 0 : Nat) : Int) ∧ H = []) := by
  refine FS.intro (N := 4) Tryd.func115 rfl rfl rfl (fun F w0 hF => ?_)
  refine CW.seq ?_
  refine CW.region ?_
  refine OL.q (Y.assign rfl) rfl ?_
  refine OL.nil ?_
  refine EX.seq ?_
  refine CW.seq ?_
  refine CW.seq ?_
  refine CW.region ?_
  refine OL.q (Y.move rfl) rfl ?_
  refine OL.nil ?_
  refine EX.seq ?_
  refine CW.cond rfl (fun h0 => ?_) (fun h0 => ?_)
  · repeat (first | replace h0 := yes h0 | replace h0 := no h0 | replace h0 := nyes h0 | replace h0 := nno h0)
    refine CW.seq ?_
    refine CW.region ?_
    refine OL.q (Y.assign rfl) rfl ?_
    refine OL.nil ?_
    refine EX.seq ?_
    refine CW.ret ?_
    refine EX.retT ?_
    exact EX.fin1 [] rfl rfl rfl ⟨by rw [h0]; rfl, rfl⟩
  · repeat (first | replace h0 := yes h0 | replace h0 := no h0 | replace h0 := nyes h0 | replace h0 := nno h0)
    refine CW.skip ?_
    refine EX.seq ?_
    refine CW.seq ?_
    refine CW.region ?_
    refine OL.q (Y.assign rfl) rfl ?_
    refine OL.nil ?_
    refine EX.seq ?_
    refine CW.ret ?_
    exact EX.fin1 [] rfl rfl rfl ⟨by rw [h0]; rfl, rfl⟩

theorem numDigits_any (x : Nat) (h1 : 1 ≤ x) (hx : x < 10000) :
    FS Tryd.prog 110 [.int .u64 x] (tabP) [] (fun r H => r = .int .i64 (numd x : Nat) ∧ H = []) := by
  refine FS.intro (N := 15) Tryd.func110 rfl rfl rfl (fun F w0 hF => ?_)
  have hl := len64_lt x hx
  obtain ⟨hq, hd⟩ := numd_is x hx h1
  generalize hqq : len64 x * 78913 / 262144 = q at hq hd
  obtain ⟨p, hp⟩ : ∃ p, pow10[q]? = some p := ⟨_, List.getElem?_eq_getElem (by show q < 20; exact hq)⟩
  have hpd : pow10.getD q 0 = p := by simp [List.getD_eq_getElem?_getD, hp]
  rw [hpd] at hd
  refine CW.seq ?_
  refine CW.region ?_
  refine OL.q (Y.assign rfl) rfl ?_
  refine OL.nil ?_
  refine EX.seq ?_
  refine CW.seq ?_
  refine CW.region ?_
  refine OL.q (Y.move rfl) rfl ?_
  refine OL.call [] (len64_any x hx) Tryd.call114 rfl rfl rfl rfl (Ent.nothing _) rfl ?_
  rintro _ _ ⟨rfl, rfl⟩
  refine ⟨rfl, rfl, ?_⟩
  refine OL.call [] (log10_any (len64 x) (by omega)) Tryd.call113 rfl rfl rfl rfl (Ent.nothing _) rfl ?_
  rintro _ _ ⟨rfl, rfl⟩
  rw [hqq]
  refine ⟨rfl, rfl, ?_⟩
  refine OL.q (Y.assign rfl) rfl ?_
  refine OL.nil ?_
  refine EX.seq ?_
  refine CW.seq ?_
  refine CW.region ?_
  refine OL.q (Y.move rfl) rfl ?_
  refine OL.q (Y.move rfl) rfl ?_
  refine OL.q (Y.move rfl) rfl ?_
  refine OL.q (Y.indexArr (k := q) (b := 0) Tryd.underlying168 C49 rfl rfl rfl hq) rfl ?_
  refine OL.q (Y.load T49 rfl (Ent.frame (Up.cellIs _ _ _) (fun h hs => by rw [Nat.mul_one, Nat.zero_add]; have := (hF h hs) q _ (by rw [List.getElem?_map, hp]; rfl); rwa [Nat.zero_add] at this))) rfl ?_
  refine OL.q (Y.geq rfl rfl) rfl ?_
  refine OL.call [] (bool2_any _) Tryd.call115 rfl rfl rfl rfl (Ent.nothing _) rfl ?_
  rintro _ _ ⟨rfl, rfl⟩
  refine ⟨rfl, rfl, ?_⟩
  refine OL.q (Y.addN (i := q) rfl rfl (by split <;> omega)) rfl ?_
  refine OL.q (Y.assign rfl) rfl ?_
  refine OL.nil ?_
  refine EX.seq ?_
  refine CW.ret ?_
  refine EX.fin1 [] rfl rfl rfl ⟨?_, rfl⟩
  rw [← hd]
  congr 3
  by_cases e : p ≤ x
  · rw [if_pos e, if_pos (decide_eq_true (by omega))]
  · rw [if_neg e, if_neg (by simp; omega)]


theorem bRows_nat (l : List UInt8) : bRows l = (l.map (fun b : UInt8 => b.toNat)).map fun n : Nat => [Value.int .u8 (n : Int)] := by simp [bRows]
theorem fmt4_is (x : Nat) (hx : x < 10000) : 1000 ≤ x → (dig4 x).map (fun b : UInt8 => b.toNat) = [at0 smalls (x % 10000 / 100 * 2), at0 smalls (x % 10000 / 100 * 2 + 1), at0 smalls (x % 10000 % 100 * 2), at0 smalls (x % 10000 % 100 * 2 + 1)] :=
  of_decide_eq_true (all4 (p := fun x => decide (1000 ≤ x → (dig4 x).map (fun b : UInt8 => b.toNat) = [at0 smalls (x % 10000 / 100 * 2), at0 smalls (x % 10000 / 100 * 2 + 1), at0 smalls (x % 10000 % 100 * 2), at0 smalls (x % 10000 % 100 * 2 + 1)])) (by decide +kernel) x hx)
theorem fmt3_is (x : Nat) (hx : x < 10000) : 100 ≤ x → x < 1000 → (dig4 x).map (fun b : UInt8 => b.toNat) = [48 + x / 100, at0 smalls (x % 100 * 2), at0 smalls (x % 100 * 2 + 1)] :=
  of_decide_eq_true (all4 (p := fun x => decide (100 ≤ x → x < 1000 → (dig4 x).map (fun b : UInt8 => b.toNat) = [48 + x / 100, at0 smalls (x % 100 * 2), at0 smalls (x % 100 * 2 + 1)])) (by decide +kernel) x hx)


set_option maxRecDepth 10000 in
theorem fmt4_any (b et : Nat) (x : Nat) (hlo : 1000 ≤ x) (hx : x < 10000) :
    FS Tryd.prog 111 [.slice (some ⟨b, 0, none⟩) 4 24, .int .u64 x] (nothing) [row (some ⟨b, 0, none⟩) 4 24 et 1 (List.replicate 4 [.int .u8 0])] (fun r H => r = .tuple #[] ∧ H = [row (some ⟨b, 0, none⟩) 4 24 et 1 (bRows (dig4 x))]) := by
  refine FS.intro (N := 167) Tryd.func111 rfl rfl rfl (fun F w0 hF => ?_)
  refine CW.seq ?_
  refine CW.region ?_
  refine OL.q (Y.move rfl) rfl ?_
  refine OL.q (Y.lenSl Tryd.underlying130 rfl) rfl ?_
  refine OL.q (Y.assign rfl) rfl ?_
  refine OL.nil ?_
  refine EX.seq ?_
  refine CW.seq ?_
  refine CW.block ?_
  refine CW.loop (α := Nat) ⟨(fun k => True), (fun k => [(0, Value.slice (some { block := b, off := 0 }) 4 24), (1, Value.int IntKind.u64 ↑x), (4, Value.int IntKind.i64 ↑4)]), (fun k => [row (some { block := b, off := 0 }) 4 24 et 1 (List.replicate 4 [Value.int IntKind.u8 0])])⟩
    (fun k => (0 : Nat)) 0 [0] trivial ⟨rfl, rfl, rfl, trivial⟩ rfl rfl ?_
  rintro k hI
  dsimp only at hI ⊢
  refine CW.seq ?_
  refine CW.seq ?_
  refine CW.region ?_
  refine OL.q (Y.move rfl) rfl ?_
  refine OL.q (Y.geq rfl rfl) rfl ?_
  refine OL.nil ?_
  refine EX.seq ?_
  refine CW.cond rfl (fun h0 => ?_) (fun h0 => ?_)
  · repeat (first | replace h0 := yes h0 | replace h0 := no h0 | replace h0 := nyes h0 | replace h0 := nno h0)
    exfalso
    omega
  repeat (first | replace h0 := yes h0 | replace h0 := no h0 | replace h0 := nyes h0 | replace h0 := nno h0)
  refine CW.exit ?_
  refine EX.exitT ?_
  refine EX.exitT ?_
  refine EX.exitB ?_
  refine EX.seq ?_
  refine CW.seq ?_
  refine CW.region ?_
  refine OL.q (Y.move rfl) rfl ?_
  refine OL.q (Y.convN (.inl rfl) Tryd.underlying49 Tryd.underlying120 rfl (by omega)) rfl ?_
  refine OL.q (Y.assign rfl) rfl ?_
  refine OL.nil ?_
  refine EX.seq ?_
  refine CW.seq ?_
  refine CW.seq ?_
  refine CW.region ?_
  refine OL.q (Y.move rfl) rfl ?_
  refine OL.q (Y.geq rfl rfl) rfl ?_
  refine OL.nil ?_
  refine EX.seq ?_
  refine CW.cond rfl (fun h1 => ?_) (fun h1 => ?_)
  rotate_left
  · repeat (first | replace h1 := yes h1 | replace h1 := no h1 | replace h1 := nyes h1 | replace h1 := nno h1)
    exfalso
    omega
  repeat (first | replace h1 := yes h1 | replace h1 := no h1 | replace h1 := nyes h1 | replace h1 := nno h1)
  refine CW.seq ?_
  refine CW.region ?_
  refine OL.q (Y.move rfl) rfl ?_
  refine OL.q (Y.remN (n := 10000) rfl rfl rfl (by decide)) rfl ?_
  refine OL.q (Y.assign rfl) rfl ?_
  refine OL.nil ?_
  refine EX.seq ?_
  refine CW.seq ?_
  refine CW.region ?_
  refine OL.q (Y.move rfl) rfl ?_
  refine OL.q (Y.quoN (.inl rfl) (n := 10000) rfl rfl rfl (by decide) (by omega)) rfl ?_
  refine OL.q (Y.assign rfl) rfl ?_
  refine OL.nil ?_
  refine EX.seq ?_
  refine CW.seq ?_
  refine CW.region ?_
  refine OL.q (Y.move rfl) rfl ?_
  refine OL.q (Y.quoN (.inl rfl) (n := 100) rfl rfl rfl (by decide) (by omega)) rfl ?_
  refine OL.q (Y.mulN (.inl rfl) (n := 2) rfl rfl rfl (by omega)) rfl ?_
  refine OL.q (Y.move rfl) rfl ?_
  refine OL.q (Y.remN (n := 100) rfl rfl rfl (by decide)) rfl ?_
  refine OL.q (Y.mulN (.inl rfl) (n := 2) rfl rfl rfl (by omega)) rfl ?_
  refine OL.q (Y.assign rfl) rfl ?_
  refine OL.q (Y.assign rfl) rfl ?_
  refine OL.nil ?_
  refine EX.seq ?_
  refine CW.seq ?_
  refine CW.drawn [(true, 0), (true, 1), (true, 2), (true, 3), (true, 4), (true, 5), (true, 6), (true, 7), (true, 8), (true, 9), (true, 10), (true, 11), (false, 12)] [13, 14] [] mixed (by kernel_rfl) (by repeat (first | exact PanicOk.body | refine PanicOk.then ?_ | refine PanicOk.block ?_)) (by kernel_rfl) rfl rfl rfl rfl ?_
  refine OL.qt (Y.move rfl) rfl ?_
  refine OL.qt (Y.move rfl) rfl ?_
  refine OL.qt (Y.sub rfl rfl (by omega)) rfl ?_
  refine OL.qt (Y.move rfl) rfl ?_
  refine OL.qt (Y.move rfl) rfl ?_
  refine OL.qt (Y.sub rfl rfl (by omega)) rfl ?_
  refine OL.qt (Y.move rfl) rfl ?_
  refine OL.qt (Y.addNk (.inl rfl) (m := x % 10000 % 100 * 2) (n := 1) rfl rfl rfl (by omega)) rfl ?_
  refine OL.qt (indexStr0 (s := smalls) (k := x % 10000 % 100 * 2 + 1) Tryd.underlying9 rfl rfl rfl (show x % 10000 % 100 * 2 + 1 < smalls.size by rw [smalls_size]; omega)) rfl ?_
  refine OL.qt (Y.move rfl) rfl ?_
  refine OL.qt (indexStr0 (s := smalls) (k := x % 10000 % 100 * 2) Tryd.underlying9 rfl rfl rfl (show x % 10000 % 100 * 2 < smalls.size by rw [smalls_size]; omega)) rfl ?_
  refine OL.qt (Y.indexAt (q := 3) Tryd.underlying130 C5 rfl rfl (by omega) (by omega)) rfl ?_
  refine OL.storeRow (k := 3) (j := 0) (xs := [.int .u8 0]) 0 rfl C5 rfl rfl rfl rfl rfl rfl rfl (by decide) ⟨rfl, rfl, ?_⟩
  refine OL.nil ?_
  refine EX.tail ?_
  refine OL.q (Y.indexAt (q := 2) Tryd.underlying130 C5 rfl rfl (by omega) (by omega)) rfl ?_
  refine OL.storeRow (k := 2) (j := 0) (xs := [.int .u8 0]) 0 rfl C5 rfl rfl rfl rfl rfl rfl rfl (by decide) ⟨rfl, rfl, ?_⟩
  refine OL.nil ?_
  refine EX.seq ?_
  refine CW.seq ?_
  refine CW.drawn [(true, 0), (true, 1), (true, 2), (true, 3), (true, 4), (true, 5), (true, 6), (true, 7), (true, 8), (true, 9), (true, 10), (true, 11), (false, 12)] [13, 14] [] mixed (by kernel_rfl) (by repeat (first | exact PanicOk.body | refine PanicOk.then ?_ | refine PanicOk.block ?_)) (by kernel_rfl) rfl rfl rfl rfl ?_
  refine OL.qt (Y.move rfl) rfl ?_
  refine OL.qt (Y.move rfl) rfl ?_
  refine OL.qt (Y.sub rfl rfl (by omega)) rfl ?_
  refine OL.qt (Y.move rfl) rfl ?_
  refine OL.qt (Y.move rfl) rfl ?_
  refine OL.qt (Y.sub rfl rfl (by omega)) rfl ?_
  refine OL.qt (Y.move rfl) rfl ?_
  refine OL.qt (Y.addNk (.inl rfl) (m := x % 10000 / 100 * 2) (n := 1) rfl rfl rfl (by omega)) rfl ?_
  refine OL.qt (indexStr0 (s := smalls) (k := x % 10000 / 100 * 2 + 1) Tryd.underlying9 rfl rfl rfl (show x % 10000 / 100 * 2 + 1 < smalls.size by rw [smalls_size]; omega)) rfl ?_
  refine OL.qt (Y.move rfl) rfl ?_
  refine OL.qt (indexStr0 (s := smalls) (k := x % 10000 / 100 * 2) Tryd.underlying9 rfl rfl rfl (show x % 10000 / 100 * 2 < smalls.size by rw [smalls_size]; omega)) rfl ?_
  refine OL.qt (Y.indexAt (q := 1) Tryd.underlying130 C5 rfl rfl (by omega) (by omega)) rfl ?_
  refine OL.storeRow (k := 1) (j := 0) (xs := [.int .u8 0]) 0 rfl C5 rfl rfl rfl rfl rfl rfl rfl (by decide) ⟨rfl, rfl, ?_⟩
  refine OL.nil ?_
  refine EX.tail ?_
  refine OL.q (Y.indexAt (q := 0) Tryd.underlying130 C5 rfl rfl (by omega) (by omega)) rfl ?_
  refine OL.storeRow (k := 0) (j := 0) (xs := [.int .u8 0]) 0 rfl C5 rfl rfl rfl rfl rfl rfl rfl (by decide) ⟨rfl, rfl, ?_⟩
  refine OL.nil ?_
  refine EX.seq ?_
  refine CW.region ?_
  refine OL.q (Y.move rfl) rfl ?_
  refine OL.q (Y.sub rfl rfl (by omega)) rfl ?_
  refine OL.q (Y.assign rfl) rfl ?_
  refine OL.nil ?_
  refine EX.seq ?_
  refine CW.seq ?_
  refine CW.seq ?_
  refine CW.region ?_
  refine OL.q (Y.move rfl) rfl ?_
  refine OL.q (Y.geq rfl rfl) rfl ?_
  refine OL.nil ?_
  refine EX.seq ?_
  refine CW.cond rfl (fun h2 => ?_) (fun h2 => ?_)
  · repeat (first | replace h2 := yes h2 | replace h2 := no h2 | replace h2 := nyes h2 | replace h2 := nno h2)
    exfalso
    omega
  repeat (first | replace h2 := yes h2 | replace h2 := no h2 | replace h2 := nyes h2 | replace h2 := nno h2)
  refine CW.skip ?_
  refine EX.seq ?_
  refine CW.seq ?_
  refine CW.region ?_
  refine OL.q (Y.move rfl) rfl ?_
  refine OL.q (Y.gtr rfl rfl) rfl ?_
  refine OL.nil ?_
  refine EX.seq ?_
  refine CW.cond rfl (fun h3 => ?_) (fun h3 => ?_)
  · repeat (first | replace h3 := yes h3 | replace h3 := no h3 | replace h3 := nyes h3 | replace h3 := nno h3)
    exfalso
    omega
  repeat (first | replace h3 := yes h3 | replace h3 := no h3 | replace h3 := nyes h3 | replace h3 := nno h3)
  refine CW.skip ?_
  refine EX.fin0 (.inr rfl) [0] rfl rfl ⟨rfl, ?_⟩
  have h9 := fmt4_is x hx hlo
  rw [bRows_nat, h9]
  rfl

set_option maxRecDepth 10000 in
theorem fmt3_any (b et : Nat) (x : Nat) (hlo : 100 ≤ x) (hx : x < 1000) :
    FS Tryd.prog 111 [.slice (some ⟨b, 0, none⟩) 3 24, .int .u64 x] (nothing) [row (some ⟨b, 0, none⟩) 3 24 et 1 (List.replicate 3 [.int .u8 0])] (fun r H => r = .tuple #[] ∧ H = [row (some ⟨b, 0, none⟩) 3 24 et 1 (bRows (dig4 x))]) := by
  refine FS.intro (N := 167) Tryd.func111 rfl rfl rfl (fun F w0 hF => ?_)
  refine CW.seq ?_
  refine CW.region ?_
  refine OL.q (Y.move rfl) rfl ?_
  refine OL.q (Y.lenSl Tryd.underlying130 rfl) rfl ?_
  refine OL.q (Y.assign rfl) rfl ?_
  refine OL.nil ?_
  refine EX.seq ?_
  refine CW.seq ?_
  refine CW.block ?_
  refine CW.loop (α := Nat) ⟨(fun k => True), (fun k => [(0, Value.slice (some { block := b, off := 0 }) 3 24), (1, Value.int IntKind.u64 ↑x), (4, Value.int IntKind.i64 ↑3)]), (fun k => [row (some { block := b, off := 0 }) 3 24 et 1 (List.replicate 3 [Value.int IntKind.u8 0])])⟩
    (fun k => (0 : Nat)) 0 [0] trivial ⟨rfl, rfl, rfl, trivial⟩ rfl rfl ?_
  rintro k hI
  dsimp only at hI ⊢
  refine CW.seq ?_
  refine CW.seq ?_
  refine CW.region ?_
  refine OL.q (Y.move rfl) rfl ?_
  refine OL.q (Y.geq rfl rfl) rfl ?_
  refine OL.nil ?_
  refine EX.seq ?_
  refine CW.cond rfl (fun h0 => ?_) (fun h0 => ?_)
  · repeat (first | replace h0 := yes h0 | replace h0 := no h0 | replace h0 := nyes h0 | replace h0 := nno h0)
    exfalso
    omega
  repeat (first | replace h0 := yes h0 | replace h0 := no h0 | replace h0 := nyes h0 | replace h0 := nno h0)
  refine CW.exit ?_
  refine EX.exitT ?_
  refine EX.exitT ?_
  refine EX.exitB ?_
  refine EX.seq ?_
  refine CW.seq ?_
  refine CW.region ?_
  refine OL.q (Y.move rfl) rfl ?_
  refine OL.q (Y.convN (.inl rfl) Tryd.underlying49 Tryd.underlying120 rfl (by omega)) rfl ?_
  refine OL.q (Y.assign rfl) rfl ?_
  refine OL.nil ?_
  refine EX.seq ?_
  refine CW.seq ?_
  refine CW.seq ?_
  refine CW.region ?_
  refine OL.q (Y.move rfl) rfl ?_
  refine OL.q (Y.geq rfl rfl) rfl ?_
  refine OL.nil ?_
  refine EX.seq ?_
  refine CW.cond rfl (fun h1 => ?_) (fun h1 => ?_)
  · repeat (first | replace h1 := yes h1 | replace h1 := no h1 | replace h1 := nyes h1 | replace h1 := nno h1)
    exfalso
    omega
  repeat (first | replace h1 := yes h1 | replace h1 := no h1 | replace h1 := nyes h1 | replace h1 := nno h1)
  refine CW.skip ?_
  refine EX.seq ?_
  refine CW.seq ?_
  refine CW.seq ?_
  refine CW.region ?_
  refine OL.q (Y.move rfl) rfl ?_
  refine OL.q (Y.geq rfl rfl) rfl ?_
  refine OL.nil ?_
  refine EX.seq ?_
  refine CW.cond rfl (fun h2 => ?_) (fun h2 => ?_)
  rotate_left
  · repeat (first | replace h2 := yes h2 | replace h2 := no h2 | replace h2 := nyes h2 | replace h2 := nno h2)
    exfalso
    omega
  repeat (first | replace h2 := yes h2 | replace h2 := no h2 | replace h2 := nyes h2 | replace h2 := nno h2)
  refine CW.seq ?_
  refine CW.region ?_
  refine OL.q (Y.move rfl) rfl ?_
  refine OL.q (Y.remN (n := 100) rfl rfl rfl (by decide)) rfl ?_
  refine OL.q (Y.mulN (.inl rfl) (n := 2) rfl rfl rfl (by omega)) rfl ?_
  refine OL.q (Y.assign rfl) rfl ?_
  refine OL.nil ?_
  refine EX.seq ?_
  refine CW.seq ?_
  refine CW.region ?_
  refine OL.q (Y.move rfl) rfl ?_
  refine OL.q (Y.quoN (.inl rfl) (n := 100) rfl rfl rfl (by decide) (by omega)) rfl ?_
  refine OL.q (Y.assign rfl) rfl ?_
  refine OL.nil ?_
  refine EX.seq ?_
  refine CW.seq ?_
  refine CW.drawn [(true, 0), (true, 1), (true, 2), (true, 3), (true, 4), (true, 5), (true, 6), (true, 7), (true, 8), (true, 9), (true, 10), (true, 11), (false, 12)] [13, 14] [] mixed (by kernel_rfl) (by repeat (first | exact PanicOk.body | refine PanicOk.then ?_ | refine PanicOk.block ?_)) (by kernel_rfl) rfl rfl rfl rfl ?_
  refine OL.qt (Y.move rfl) rfl ?_
  refine OL.qt (Y.move rfl) rfl ?_
  refine OL.qt (Y.sub rfl rfl (by omega)) rfl ?_
  refine OL.qt (Y.move rfl) rfl ?_
  refine OL.qt (Y.move rfl) rfl ?_
  refine OL.qt (Y.sub rfl rfl (by omega)) rfl ?_
  refine OL.qt (Y.move rfl) rfl ?_
  refine OL.qt (Y.addNk (.inl rfl) (m := x % 100 * 2) (n := 1) rfl rfl rfl (by omega)) rfl ?_
  refine OL.qt (indexStr0 (s := smalls) (k := x % 100 * 2 + 1) Tryd.underlying9 rfl rfl rfl (show x % 100 * 2 + 1 < smalls.size by rw [smalls_size]; omega)) rfl ?_
  refine OL.qt (Y.move rfl) rfl ?_
  refine OL.qt (indexStr0 (s := smalls) (k := x % 100 * 2) Tryd.underlying9 rfl rfl rfl (show x % 100 * 2 < smalls.size by rw [smalls_size]; omega)) rfl ?_
  refine OL.qt (Y.indexAt (q := 2) Tryd.underlying130 C5 rfl rfl (by omega) (by omega)) rfl ?_
  refine OL.storeRow (k := 2) (j := 0) (xs := [.int .u8 0]) 0 rfl C5 rfl rfl rfl rfl rfl rfl rfl (by decide) ⟨rfl, rfl, ?_⟩
  refine OL.nil ?_
  refine EX.tail ?_
  refine OL.q (Y.indexAt (q := 1) Tryd.underlying130 C5 rfl rfl (by omega) (by omega)) rfl ?_
  refine OL.storeRow (k := 1) (j := 0) (xs := [.int .u8 0]) 0 rfl C5 rfl rfl rfl rfl rfl rfl rfl (by decide) ⟨rfl, rfl, ?_⟩
  refine OL.nil ?_
  refine EX.seq ?_
  refine CW.region ?_
  refine OL.q (Y.move rfl) rfl ?_
  refine OL.q (Y.sub rfl rfl (by omega)) rfl ?_
  refine OL.q (Y.assign rfl) rfl ?_
  refine OL.nil ?_
  refine EX.seq ?_
  refine CW.seq ?_
  refine CW.region ?_
  refine OL.q (Y.move rfl) rfl ?_
  refine OL.q (Y.gtr rfl rfl) rfl ?_
  refine OL.nil ?_
  refine EX.seq ?_
  refine CW.cond rfl (fun h3 => ?_) (fun h3 => ?_)
  rotate_left
  · repeat (first | replace h3 := yes h3 | replace h3 := no h3 | replace h3 := nyes h3 | replace h3 := nno h3)
    exfalso
    omega
  repeat (first | replace h3 := yes h3 | replace h3 := no h3 | replace h3 := nyes h3 | replace h3 := nno h3)
  refine CW.region ?_
  refine OL.q (Y.move rfl) rfl ?_
  refine OL.q (Y.move rfl) rfl ?_
  refine OL.q (Y.addNk (.inl rfl) (m := 48) (n := x / 100) rfl rfl rfl (by omega)) rfl ?_
  refine OL.q (Y.convB Tryd.underlying120 Tryd.underlying5 rfl (by omega)) rfl ?_
  refine OL.q (Y.indexAt (q := 0) Tryd.underlying130 C5 rfl rfl rfl (by omega)) rfl ?_
  refine OL.storeRow (k := 0) (j := 0) (xs := [.int .u8 0]) 0 rfl C5 rfl rfl rfl rfl rfl rfl rfl (by decide) ⟨rfl, rfl, ?_⟩
  refine OL.nil ?_
  refine EX.fin0 (.inr rfl) [0] rfl rfl ⟨rfl, ?_⟩
  have h9 := fmt3_is x (by omega) hlo hx
  rw [bRows_nat, h9]
  rfl

theorem appendUint_any (a : Option Addr) (n c : Nat) (p : List UInt8) (x : Nat) (hx : x < 10000) (hn : n ≤ 100000000) :
    FS Tryd.prog 107 [.slice a n c, .int .u64 x, .int .i64 10] (tabP) [row a n c 5 1 (bRows p)] (fun r H => ∃ a2 c2, r = .slice a2 (n + (dig4 x).length) c2 ∧ H = [row a2 (n + (dig4 x).length) c2 5 1 (bRows (p ++ dig4 x))]) := by
  refine FS.intro (N := 36) Tryd.func107 rfl rfl rfl (fun F w0 hF => ?_)
  have hd := dig4_len x
  refine CW.seq ?_
  refine CW.region ?_
  refine OL.q (Y.assign rfl) rfl ?_
  refine OL.nil ?_
  refine EX.seq ?_
  refine CW.seq ?_
  refine CW.seq ?_
  refine CW.region ?_
  refine OL.q (Y.move rfl) rfl ?_
  refine OL.q (Y.eql rfl rfl) rfl ?_
  refine OL.nil ?_
  refine EX.seq ?_
  refine CW.cond rfl (fun h0 => ?_) (fun h0 => ?_)
  rotate_left
  · repeat (first | replace h0 := yes h0 | replace h0 := no h0 | replace h0 := nyes h0 | replace h0 := nno h0)
    exfalso
    exact h0 rfl
  repeat (first | replace h0 := yes h0 | replace h0 := no h0 | replace h0 := nyes h0 | replace h0 := nno h0)
  refine CW.seq ?_
  refine CW.seq ?_
  refine CW.region ?_
  refine OL.q (Y.move rfl) rfl ?_
  refine OL.q (Y.lss rfl rfl) rfl ?_
  refine OL.nil ?_
  refine EX.seq ?_
  refine CW.cond rfl (fun h1 => ?_) (fun h1 => ?_)
  · repeat (first | replace h1 := yes h1 | replace h1 := no h1 | replace h1 := nyes h1 | replace h1 := nno h1)
    refine CW.seq ?_
    refine CW.region ?_
    refine OL.q (Y.move rfl) rfl ?_
    refine OL.q (Y.move rfl) rfl ?_
    refine OL.q (Y.convN (.inr (.inr (.inl rfl))) Tryd.underlying49 Tryd.underlying3 rfl (by omega)) rfl ?_
    refine OL.call [] (small_any x (by omega)) Tryd.call109 rfl rfl rfl rfl (Ent.nothing _) rfl ?_
    rintro _ _ ⟨rfl, rfl⟩
    refine ⟨rfl, rfl, ?_⟩
    refine OL.appendS 0 rfl Tryd.underlying130 Tryd.underlying9 E5 rfl rfl (show n + (dig4 x).length ≤ _ by omega) (show (n + (dig4 x).length) * 1 ≤ _ by omega) (show (dig4 x).length * 1 ≤ _ by omega) rfl (fun a17 c17 => ⟨rfl, rfl, ?_⟩)
    refine OL.q (Y.assign rfl) rfl ?_
    refine OL.nil ?_
    refine EX.seq ?_
    refine CW.ret ?_
    refine EX.retT ?_
    refine EX.retT ?_
    rw [bRows_of, ← bRows_app]
    exact EX.fin1 [0] rfl rfl rfl ⟨a17, c17, rfl, rfl⟩
  · repeat (first | replace h1 := yes h1 | replace h1 := no h1 | replace h1 := nyes h1 | replace h1 := nno h1)
    refine CW.skip ?_
    refine EX.seq ?_
    refine CW.seq ?_
    refine CW.region ?_
    refine OL.alloc C162 rfl (fun b7 => ⟨rfl, rfl, ?_⟩)
    refine OL.nil ?_
    refine EX.seq ?_
    refine CW.seq ?_
    refine CW.region ?_
    refine OL.q (Y.move rfl) rfl ?_
    refine OL.call [] (numDigits_any x (by omega) hx) Tryd.call110 rfl rfl rfl rfl (Ent.frame Up.tabP hF) rfl ?_
    rintro _ _ ⟨rfl, rfl⟩
    refine ⟨rfl, rfl, ?_⟩
    refine OL.q (Y.assign rfl) rfl ?_
    refine OL.nil ?_
    refine EX.seq ?_
    refine CW.seq ?_
    generalize hbb : b7 = bb
    by_cases hx4 : 1000 ≤ x
    · have hnd : numd x = 4 := by unfold numd; rw [if_neg (by omega), if_neg (by omega), if_neg (by omega)]
      have hl4 : (dig4 x).length = 4 := by rw [dig4_numd, hnd]
      rw [hnd]
      refine CW.read (fun _ : Unit => True) (fun _ => [row a n c 5 1 (bRows p), row (some ⟨bb, 0, none⟩) 4 24 162 1 (List.replicate 4 [.int .u8 0])]) (fun h hs => ⟨(), trivial, ?_⟩) (fun _ _ => ?_)
      · exact hs.tail_mono (fun _ hk => hk.head_mono (blk_row (k := 4) (by decide) (by decide)))
      refine CW.region ?_
      refine OL.q (Y.move rfl) rfl ?_
      refine OL.q (Y.sliceArr (k := 4) Tryd.underlying162 C5 rfl rfl rfl (by omega)) rfl ?_
      refine OL.q (Y.move rfl) rfl ?_
      refine OL.call [1] (fmt4_any bb _ x hx4 hx) Tryd.call111 rfl rfl rfl rfl (Ent.nothing _) rfl ?_
      rintro _ _ ⟨rfl, rfl⟩
      refine ⟨rfl, rfl, ?_⟩
      refine OL.nil ?_
      refine EX.seq ?_
      refine CW.seq ?_
      refine CW.region ?_
      refine OL.q (Y.move rfl) rfl ?_
      refine OL.q (Y.move rfl) rfl ?_
      refine OL.q (Y.sliceArr (k := 4) Tryd.underlying162 C5 rfl rfl rfl (by omega)) rfl ?_
      refine OL.append (bRows (dig4 x)) 0 rfl Tryd.underlying130 E5 rfl rfl (Ent.at 1 rfl (Up.rd _ _ _ _) row_rd) (oneRows_map _ (fun _ => rfl) _) (by omega) (by omega) rfl (fun a27 c27 => ⟨rfl, rfl, ?_⟩)
      refine OL.q (Y.assign rfl) rfl ?_
      refine OL.nil ?_
      refine EX.seq ?_
      refine CW.ret ?_
      refine EX.retT ?_
      rw [← bRows_app, ← hl4]
      exact EX.fin1 [0] rfl rfl rfl ⟨a27, c27, rfl, rfl⟩
    · have hnd : numd x = 3 := by unfold numd; rw [if_neg (by omega), if_neg (by omega), if_pos (by omega)]
      have hl4 : (dig4 x).length = 3 := by rw [dig4_numd, hnd]
      rw [hnd]
      refine CW.read (fun _ : Unit => True) (fun _ => [row a n c 5 1 (bRows p), row (some ⟨bb, 0, none⟩) 3 24 162 1 (List.replicate 3 [.int .u8 0])]) (fun h hs => ⟨(), trivial, ?_⟩) (fun _ _ => ?_)
      · exact hs.tail_mono (fun _ hk => hk.head_mono (blk_row (k := 3) (by decide) (by decide)))
      refine CW.region ?_
      refine OL.q (Y.move rfl) rfl ?_
      refine OL.q (Y.sliceArr (k := 3) Tryd.underlying162 C5 rfl rfl rfl (by omega)) rfl ?_
      refine OL.q (Y.move rfl) rfl ?_
      refine OL.call [1] (fmt3_any bb _ x (by omega) (by omega)) Tryd.call111 rfl rfl rfl rfl (Ent.nothing _) rfl ?_
      rintro _ _ ⟨rfl, rfl⟩
      refine ⟨rfl, rfl, ?_⟩
      refine OL.nil ?_
      refine EX.seq ?_
      refine CW.seq ?_
      refine CW.region ?_
      refine OL.q (Y.move rfl) rfl ?_
      refine OL.q (Y.move rfl) rfl ?_
      refine OL.q (Y.sliceArr (k := 3) Tryd.underlying162 C5 rfl rfl rfl (by omega)) rfl ?_
      refine OL.append (bRows (dig4 x)) 0 rfl Tryd.underlying130 E5 rfl rfl (Ent.at 1 rfl (Up.rd _ _ _ _) row_rd) (oneRows_map _ (fun _ => rfl) _) (by omega) (by omega) rfl (fun a27 c27 => ⟨rfl, rfl, ?_⟩)
      refine OL.q (Y.assign rfl) rfl ?_
      refine OL.nil ?_
      refine EX.seq ?_
      refine CW.ret ?_
      refine EX.retT ?_
      rw [← bRows_app, ← hl4]
      exact EX.fin1 [0] rfl rfl rfl ⟨a27, c27, rfl, rfl⟩

theorem appendIntI_any (a : Option Addr) (n c : Nat) (p : List UInt8) (x : Nat) (hx : x < 10000) (hn : n ≤ 100000000) :
    FS Tryd.prog 103 [.slice a n c, .int .i64 x, .int .i64 10] (tabP) [row a n c 5 1 (bRows p)] (fun r H => ∃ a2 c2, r = .slice a2 (n + (dig4 x).length) c2 ∧ H = [row a2 (n + (dig4 x).length) c2 5 1 (bRows (p ++ dig4 x))]) := by
  refine FS.intro (N := 21) Tryd.func103 rfl rfl rfl (fun F w0 hF => ?_)
  refine CW.seq ?_
  refine CW.region ?_
  refine OL.q (Y.assign rfl) rfl ?_
  refine OL.nil ?_
  refine EX.seq ?_
  refine CW.seq ?_
  refine CW.region ?_
  refine OL.q (Y.move rfl) rfl ?_
  refine OL.q (Y.conv Tryd.underlying2 Tryd.underlying49 rfl) rfl ?_
  refine OL.q (Y.assign rfl) rfl ?_
  refine OL.nil ?_
  refine EX.seq ?_
  refine CW.seq ?_
  refine CW.seq ?_
  rw [show IntKind.u64.wrap (x : Int) = x by simp [IntKind.wrap, IntKind.signed, IntKind.bits]; omega]
  refine CW.region ?_
  refine OL.q (Y.move rfl) rfl ?_
  refine OL.q (Y.lss rfl rfl) rfl ?_
  refine OL.nil ?_
  refine EX.seq ?_
  refine CW.cond rfl (fun h0 => ?_) (fun h0 => ?_)
  · repeat (first | replace h0 := yes h0 | replace h0 := no h0 | replace h0 := nyes h0 | replace h0 := nno h0)
    exfalso
    omega
  repeat (first | replace h0 := yes h0 | replace h0 := no h0 | replace h0 := nyes h0 | replace h0 := nno h0)
  refine CW.skip ?_
  refine EX.seq ?_
  refine CW.seq ?_
  refine CW.region ?_
  refine OL.q (Y.move rfl) rfl ?_
  refine OL.q (Y.move rfl) rfl ?_
  refine OL.q (Y.move rfl) rfl ?_
  refine OL.call [0] (appendUint_any a n c p x hx hn) Tryd.call107 rfl rfl rfl rfl (Ent.frame Up.tabP hF) rfl ?_
  rintro _ _ ⟨a2, c2, rfl, rfl⟩
  refine ⟨rfl, rfl, ?_⟩
  refine OL.q (Y.assign rfl) rfl ?_
  refine OL.nil ?_
  refine EX.seq ?_
  refine CW.ret ?_
  exact EX.fin1 [0] rfl rfl rfl ⟨a2, c2, rfl, rfl⟩

theorem appendInt_any (a : Option Addr) (n c : Nat) (p : List UInt8) (x : Nat) (hx : x < 10000) (hn : n ≤ 100000000) :
    FS Tryd.prog 85 [.slice a n c, .int .i64 x, .int .i64 10] (tabP) [row a n c 5 1 (bRows p)] (fun r H => ∃ a2 c2, r = .slice a2 (n + (dig4 x).length) c2 ∧ H = [row a2 (n + (dig4 x).length) c2 5 1 (bRows (p ++ dig4 x))]) := by
  refine FS.intro (N := 11) Tryd.func85 rfl rfl rfl (fun F w0 hF => ?_)
  refine CW.seq ?_
  refine CW.region ?_
  refine OL.q (Y.assign rfl) rfl ?_
  refine OL.nil ?_
  refine EX.seq ?_
  refine CW.seq ?_
  refine CW.region ?_
  refine OL.q (Y.move rfl) rfl ?_
  refine OL.q (Y.move rfl) rfl ?_
  refine OL.q (Y.move rfl) rfl ?_
  refine OL.call [0] (appendIntI_any a n c p x hx hn) Tryd.call103 rfl rfl rfl rfl (Ent.frame Up.tabP hF) rfl ?_
  rintro _ _ ⟨a2, c2, rfl, rfl⟩
  refine ⟨rfl, rfl, ?_⟩
  refine OL.q (Y.assign rfl) rfl ?_
  refine OL.nil ?_
  refine EX.seq ?_
  refine CW.ret ?_
  exact EX.fin1 [0] rfl rfl rfl ⟨a2, c2, rfl, rfl⟩


theorem keyArgs_snoc (l : List Int) (x : Int) : keyArgs (l ++ [x]) = keyArgs l ++ (dig4 x.toNat ++ [44]) := by simp [keyArgs]
theorem keyArgs_len : ∀ l : List Int, (keyArgs l).length ≤ 5 * l.length
  | [] => Nat.le_refl _
  | x :: l => by
    have h1 := keyArgs_len l
    have h2 := dig4_len x.toNat
    simp only [keyArgs, List.flatMap_cons, List.length_append, List.length_cons, List.length_nil] at h1 ⊢
    omega
theorem bRows_one (b : UInt8) : bRows [b] = [[.int .u8 (b.toNat : Int)]] := rfl


theorem sortKey_any (name : ByteArray) (a : Option Addr) (n c : Nat) (l : List Int) (hl : l.length = n) (hn : n ≤ 1000000) (hs : name.size ≤ 1000000) (hb : ∀ x ∈ l, 0 ≤ x ∧ x < 10000) :
    FS Tryd.prog 54 [.string name, .slice a n c] (fun h => tabP h ∧ rd a n 1 (l.map intCells) h) [] (fun r H => r = .string (keyOf name l) ∧ H = []) := by
  refine FS.intro (N := 28) Tryd.func54 rfl rfl rfl (fun F w0 hF => ?_)
  refine CW.seq ?_
  refine CW.region ?_
  refine OL.q (Y.assign rfl) rfl ?_
  refine OL.nil ?_
  refine EX.seq ?_
  refine CW.seq ?_
  refine CW.region ?_
  refine OL.q (Y.assign rfl) rfl ?_
  refine OL.nil ?_
  refine EX.seq ?_
  refine CW.seq ?_
  refine CW.seq ?_
  refine CW.region ?_
  refine OL.q (Y.move rfl) rfl ?_
  refine OL.q (Y.lenSl Tryd.underlying28 rfl) rfl ?_
  refine OL.q (Y.move rfl) rfl ?_
  refine OL.nil ?_
  refine EX.seq ?_
  refine CW.block ?_
  refine CW.nilRow 5 1 ?_
  refine CW.loop (α := Nat × Option Addr × Nat × Nat) ⟨fun x => x.1 ≤ n ∧ x.2.2.1 = (keyArgs (l.take x.1)).length, fun x => [(0, .string name), (5, .slice x.2.1 x.2.2.1 x.2.2.2), (8, .slice a n c), (9, .int .i64 n), (10, .int .i64 x.1)], fun x => [row x.2.1 x.2.2.1 x.2.2.2 5 1 (bRows (keyArgs (l.take x.1)))]⟩
    (fun x => n - x.1) (0, none, 0, 0) [0] ⟨Nat.zero_le _, rfl⟩ ⟨rfl, rfl, rfl, rfl, rfl, trivial⟩ rfl rfl ?_
  rintro ⟨k, ka, kn, kc⟩ ⟨hk, hkn⟩
  dsimp only at hk hkn ⊢
  have hkl := keyArgs_len (l.take k)
  rw [List.length_take] at hkl
  refine CW.seq ?_
  refine CW.region ?_
  refine OL.q (Y.lss rfl rfl) rfl ?_
  refine OL.nil ?_
  refine EX.seq ?_
  refine CW.seq ?_
  refine CW.cond rfl (fun h0 => ?_) (fun h0 => ?_)
  · repeat (first | replace h0 := yes h0 | replace h0 := no h0 | replace h0 := nyes h0 | replace h0 := nno h0)
    obtain ⟨z, hp⟩ : ∃ p, l[k]? = some p := ⟨_, List.getElem?_eq_getElem (by omega)⟩
    obtain ⟨hz0, hz1⟩ := hb z (mem_of hp)
    obtain ⟨x, rfl⟩ := Int.eq_ofNat_of_zero_le hz0
    have hdx := dig4_len x
    refine CW.skip ?_
    refine EX.seq ?_
    refine CW.seq ?_
    refine CW.block ?_
    refine CW.seq ?_
    refine CW.region ?_
    refine OL.q (Y.index (k := k) Tryd.underlying28 C3 rfl rfl (Ent.frame (Up.rd _ _ _ _) (fun h hs => (hF h hs).2)) (by omega) (by omega)) rfl ?_
    refine OL.q (Y.load T3 rfl (cellsIs_at0 (rd_at (Ent.frame (Up.rd _ _ _ _) (fun h hs => (hF h hs).2)) (mget intCells hp)) rfl)) rfl ?_
    refine OL.q (Y.assign rfl) rfl ?_
    refine OL.nil ?_
    refine EX.seq ?_
    refine CW.seq ?_
    refine CW.region ?_
    refine OL.q (Y.move rfl) rfl ?_
    refine OL.q (Y.move rfl) rfl ?_
    refine OL.call [0] (appendInt_any ka kn kc (keyArgs (l.take k)) x (by omega) (by omega)) Tryd.call85 rfl rfl rfl rfl (Ent.frame Up.tabP (fun h hs => (hF h hs).1)) rfl ?_
    rintro _ _ ⟨a2, c2, rfl, rfl⟩
    refine ⟨rfl, rfl, ?_⟩
    refine OL.q (Y.assign rfl) rfl ?_
    refine OL.nil ?_
    refine EX.seq ?_
    refine CW.region ?_
    refine OL.q (Y.move rfl) rfl ?_
    refine OL.buildSlice (bRows [44]) Tryd.underlying130 C5 (by decide) rfl (by decide) rfl rfl rfl (fun b18 => ⟨rfl, rfl, ?_⟩)
    refine OL.append (bRows [44]) 0 rfl Tryd.underlying130 E5 rfl rfl (Ent.at 1 rfl (Up.rd _ _ _ _) row_rd) rfl (by omega) (by omega) rfl (fun a19 c19 => ⟨rfl, rfl, ?_⟩)
    refine OL.q (Y.assign rfl) rfl ?_
    refine OL.nil ?_
    refine EX.norB ?_
    refine EX.seq ?_
    refine CW.region ?_
    refine OL.q (Y.add1 rfl rfl rfl (by omega)) rfl ?_
    refine OL.q (Y.move rfl) rfl ?_
    refine OL.nil ?_
    exact EX.next (k + 1, a19, kn + (dig4 x).length + 1, c19) [0] (show k + 1 ≤ n ∧ _ from ⟨by omega, by rw [take_snoc hp, keyArgs_snoc, hkn]; simp; omega⟩) (show n - (k + 1) < n - k by omega) ⟨rfl, rfl, rfl, rfl, rfl, trivial⟩ rfl (by show [_] = [_]; simp only []; rw [take_snoc hp, keyArgs_snoc, ← List.append_assoc, bRows_app _ [44]]; rfl)
  · repeat (first | replace h0 := yes h0 | replace h0 := no h0 | replace h0 := nyes h0 | replace h0 := nno h0)
    have hkl2 := keyArgs_len l
    have hkn2 : k = n := by omega
    subst hkn2
    rw [List.take_of_length_le (by omega)] at hkn ⊢
    refine CW.exit ?_
    refine EX.exitT ?_
    refine EX.exitT ?_
    refine EX.exitB ?_
    refine EX.seq ?_
    refine CW.seq ?_
    refine CW.region ?_
    refine OL.q (Y.move rfl) rfl ?_
    refine OL.buildSlice (bRows [58]) Tryd.underlying130 C5 (by decide) rfl (by decide) rfl rfl rfl (fun b22 => ⟨rfl, rfl, ?_⟩)
    refine OL.append (bRows [58]) 0 rfl Tryd.underlying130 E5 rfl rfl (Ent.at 1 rfl (Up.rd _ _ _ _) row_rd) rfl (by omega) (by omega) rfl (fun a23 c23 => ⟨rfl, rfl, ?_⟩)
    refine OL.q (Y.assign rfl) rfl ?_
    refine OL.nil ?_
    refine EX.seq ?_
    refine CW.seq ?_
    refine CW.region ?_
    refine OL.q (Y.move rfl) rfl ?_
    refine OL.q (Y.move rfl) rfl ?_
    refine OL.appendS 0 rfl Tryd.underlying130 Tryd.underlying9 E5 rfl rfl (by omega) (by omega) (by omega) rfl (fun a26 c26 => ⟨rfl, rfl, ?_⟩)
    rw [show (bRows (keyArgs l) ++ bRows [58]) ++ byteRows name = byteRows (keyOf name l) by rw [bRows_of, bRows_of, ← bRows_app, ← bRows_app]; rfl]
    refine OL.q (Y.b2s Tryd.underlying130 Tryd.underlying5 Tryd.underlying9 rfl (Ent.at 0 rfl (Up.rd _ _ _ _) row_rd)) rfl ?_
    refine OL.q (Y.assign rfl) rfl ?_
    refine OL.nil ?_
    refine EX.seq ?_
    refine CW.ret ?_
    exact EX.fin1 [] rfl rfl rfl ⟨rfl, rfl⟩
end Go.Proofs.YtmlnnepgigieaaaDoor
