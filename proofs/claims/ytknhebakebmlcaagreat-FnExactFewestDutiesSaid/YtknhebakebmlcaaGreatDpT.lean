/-
 FewestDuties: the reference's plan in memory, and its least cost (l13Plan.cost, both).
-/
import Derived.Test.YtknhebakebmlcaaGreatDpM
import Derived.Test.YtknhebakebmlcaaGreatKc
namespace Go.Proofs.YtknhebakebmlcaaGreat
open Go Go.RowKit
set_option linter.unusedVariables false
set_option maxRecDepth 100000
set_option linter.unusedSimpArgs false
theorem u64n {a : Nat} (h : a < 64) : min (IntKind.u64.wrap (a : Int)).toNat 64 = a := by
 have e : IntKind.u64.wrap (a : Int) = (a : Int) := by
  simp [IntKind.wrap, IntKind.bits, IntKind.signed]
  omega
 rw [e, Int.toNat_natCast]
 omega
theorem u64w {a : Nat} (h : a < 64) : IntKind.u64.wrap (a : Int) = (a : Int) := by
 simp [IntKind.wrap, IntKind.bits, IntKind.signed]
 omega
/-- The numbers of a plan that a cost may be. -/
structure PlanIn (m : Nat) (A : Nat → Int) (P : Nat → Nat → Int) : Prop where
 m8 : m ≤ 8
 a : ∀ k, -1 ≤ A k ∧ A k ≤ 4500
 p : ∀ i k, -1 ≤ P i k ∧ P i k ≤ 4500
theorem Ach.bound {m : Nat} {A : Nat → Int} {P : Nat → Nat → Int} (hi : PlanIn m A P) {F D : Nat} {c : Int} (h : Ach m A P F D c) : D < 2 ^ m → c ≤ 104500 * ((2 ^ m - 1 - D : Nat) : Int) := by
 induction h with
 | full h => intro _; omega
 | @one D i c him hd ha _ ih =>
  intro hD
  have h1 := lt_or1 hd
  have h2 : D ||| 2 ^ i < 2 ^ m := Nat.or_lt_two_pow hD (Nat.pow_lt_pow_right (by omega) him)
  have h3 := ih h2
  have h4 := hi.a i
  generalize D ||| 2 ^ i = x at *
  generalize 2 ^ m = y at *
  omega
 | @two D i k c him hkm hik hd hdk hf hp _ ih =>
  intro hD
  have h1 := lt_or1 hd
  have h2 : D ||| 2 ^ i ||| 2 ^ k < 2 ^ m := or_lt2 hD him hkm
  have h5 : D ||| 2 ^ i ≤ D ||| 2 ^ i ||| 2 ^ k := Nat.left_le_or
  have h3 := ih h2
  have h4 := hi.p i k
  generalize D ||| 2 ^ i ||| 2 ^ k = x at *
  generalize D ||| 2 ^ i = z at *
  generalize 2 ^ m = y at *
  omega
theorem mS_bd {m : Nat} {A : Nat → Int} {P : Nat → Nat → Int} (hi : PlanIn m A P) {F D : Nat} (hD : D < 2 ^ m) : -1 ≤ mS m A P F D ∧ mS m A P F D ≤ 30000000 := by
 have h1 := mS_is m A P F D
 have h2 : 2 ^ m ≤ 2 ^ 8 := Nat.pow_le_pow_right (by omega) hi.m8
 refine ⟨h1.ge, ?_⟩
 rcases h1 with ⟨e, _⟩ | ⟨_, h3, _⟩
 ·omega
 ·have := h3.bound hi hD
  omega
def aL (m : Nat) (A : Nat → Int) : List Int := (List.range m).map A
def qL (m : Nat) (P : Nat → Nat → Int) : List (List Int) := (List.range m).map fun i => (List.range m).map (P i)
theorem aL_at {m i : Nat} (A : Nat → Int) (h : i < m) : (aL m A)[i]? = some (A i) := by unfold aL; rw [List.getElem?_map, List.getElem?_range h]; rfl
theorem qL_at {m i : Nat} (P : Nat → Nat → Int) (h : i < m) : (qL m P)[i]? = some (aL m (P i)) := by unfold qL aL; rw [List.getElem?_map, List.getElem?_range h]; rfl
/-- What a plan knows, and where it lies. -/
structure PlanOK (tp : TypeId) (tk : TypeId) (m : Nat) (A : Nat → Int) (P : Nat → Nat → Int) (F : Nat) (W : World) (pv : Value) (aA : Option Addr) (ac : Nat) (qA : Option Addr) (qc : Nat) (px gk : Nat) (fa fq : List Nat) : Prop where
 x : Blk W px tp #[pv, .slice aA m ac, .slice qA m qc, .int .i64 (F : Int), .slice (some ⟨gk, 0, none⟩) (2 ^ m) (2 ^ m)]
 a : OSl 1 oInt W aA m ac (aL m A) fa
 q : OSl 1 (oSl 1 oInt) W qA m qc (qL m P) fq
 k : ∃ row : List Int, Blk W gk tk (rowA row) ∧ row.length = 2 ^ m ∧ ∀ (u : Nat) (v : Int), row[u]? = some v → v = -2 ∨ v = mS m A P F u
 xa : px ∉ fa
 xq : px ∉ fq
 ka : gk ∉ fa
 kq : gk ∉ fq
 xk : px ≠ gk
section
variable {tp tk : TypeId} {m : Nat} {A : Nat → Int} {P : Nat → Nat → Int} {F : Nat} {W W' : World} {pv : Value} {aA qA : Option Addr} {ac qc px gk : Nat} {fa fq : List Nat}
theorem PlanOK.touch {fp : List Nat} (h : PlanOK tp tk m A P F W pv aA ac qA qc px gk fa fq) (hT : Touch fp W W') (hx : px ∉ fp) (hk : gk ∉ fp) (ha : ∀ g, g ∈ fa → g ∉ fp) (hq : ∀ g, g ∈ fq → g ∉ fp) : PlanOK tp tk m A P F W' pv aA ac qA qc px gk fa fq := by
 obtain ⟨row, k1, k2⟩ := h.k
 exact ⟨hT.blk h.x hx, h.a.touch hT ha, h.q.touch hT hq, ⟨row, hT.blk k1 hk, k2⟩, h.xa, h.xq, h.ka, h.kq, h.xk⟩
theorem PlanOK.later (h : PlanOK tp tk m A P F W pv aA ac qA qc px gk fa fq) (hl : Later W W') : PlanOK tp tk m A P F W' pv aA ac qA qc px gk fa fq :=
 h.touch (fp := []) (Touch.of_later hl) (by simp) (by simp) (by simp) (by simp)
theorem PlanOK.xs (h : PlanOK tp tk m A P F W pv aA ac qA qc px gk fa fq) : ∀ W' [Later W W'] (j : Nat), W'.cell? ⟨px, j, none⟩ = (#[pv, .slice aA m ac, .slice qA m qc, .int .i64 (F : Int), .slice (some ⟨gk, 0, none⟩) (2 ^ m) (2 ^ m)] : Array Value)[j]? := fun W' hW' j => (h.x.later hW').cell j
theorem PlanOK.as (h : PlanOK tp tk m A P F W pv aA ac qA qc px gk fa fq) {i : Nat} (hi : i < m) : ∃ b o, aA = some ⟨b, o, none⟩ ∧ ∀ W' [Later W W'], W'.cell? ⟨b, o + i, none⟩ = some (.int .i64 (A i)) := by
 have hr : Ints W aA m ac (aL m A) := h.a.reads
 obtain ⟨b, o, x, e, hx, hc, _⟩ := Ints.at_ hr hi
 have : x = A i := by have := hx.out; rw [aL_at A hi] at this; exact (Option.some.inj this).symm
 subst this
 exact ⟨b, o, e, hc⟩
theorem PlanOK.qs (h : PlanOK tp tk m A P F W pv aA ac qA qc px gk fa fq) {i k : Nat} (hi : i < m) (hk : k < m) : ∃ b o b' o' c', qA = some ⟨b, o, none⟩ ∧ (∀ W' [Later W W'], W'.cell? ⟨b, o + i, none⟩ = some (.slice (some ⟨b', o', none⟩) m c')) ∧ (∀ W' [Later W W'], W'.cell? ⟨b', o' + k, none⟩ = some (.int .i64 (P i k))) := by
 have hr : Sl 1 (rSl 1 rInt) W qA m qc (qL m P) := h.q.reads
 obtain ⟨b, o, A1, n1, c1, x, e, hx, hc, hi1⟩ := Sl.row_ hr hi
 have : x = aL m (P i) := by have := hx.out; rw [qL_at P hi] at this; exact (Option.some.inj this).symm
 subst this
 have hn : n1 = m := by rw [hi1.len]; simp [aL]
 subst hn
 obtain ⟨b', o', y, e', hy, hc', _⟩ := Ints.at_ hi1 hk
 have : y = P i k := by have := hy.out; rw [aL_at (P i) hk] at this; exact (Option.some.inj this).symm
 subst this
 subst e'
 exact ⟨b, o, b', o', c1, e, hc, hc'⟩
theorem PlanOK.set_ (h : PlanOK tp tk m A P F W pv aA ac qA qc px gk fa fq) {u : Nat} {v : Int} (hv : v = mS m A P F u) : PlanOK tp tk m A P F (W.setCell ⟨gk, u, none⟩ (.int .i64 v)) pv aA ac qA qc px gk fa fq := by
 have hT : Touch [gk] W (W.setCell ⟨gk, u, none⟩ (.int .i64 v)) := Touch.refl_.set_ (by simp) _ _
 obtain ⟨row, k1, k2, k3⟩ := h.k
 refine ⟨hT.blk h.x (by simpa using h.xk), h.a.touch hT (fun g hg hm => by rw [List.mem_singleton.1 hm] at hg; exact h.ka hg), h.q.touch hT (fun g hg hm => by rw [List.mem_singleton.1 hm] at hg; exact h.kq hg), ⟨row.set u v, ?_, by simp [k2], fun u' v' hu' => ?_⟩, h.xa, h.xq, h.ka, h.kq, h.xk⟩
 ·have := k1.set_ u (.int .i64 v)
  rw [rowA_set] at this
  exact this
 ·by_cases e : u' = u
  ·subst e
   by_cases hl : u' < row.length
   ·rw [List.getElem?_set_self hl] at hu'; cases hu'; exact .inr hv
   ·rw [List.getElem?_eq_none (by rw [List.length_set]; omega)] at hu'; cases hu'
  ·rw [List.getElem?_set_ne (Ne.symm e)] at hu'
   exact k3 u' v' hu'
end
def CstC (m : Nat) (A : Nat → Int) (P : Nat → Nat → Int) (F : Nat) (pA : Option Addr) (pc : Nat) (aA : Option Addr) (ac : Nat) (qA : Option Addr) (qc px gk : Nat) (fa fq : List Nat) (q : Nat) : Prop := ∀ (W : World) (uv : Int) (u : Nat), uv = (u : Int) → u < 2 ^ m → 2 ^ m - 1 - u ≤ q → PlanOK 107 3 m A P F W (.slice pA m pc) aA ac qA qc px gk fa fq →
 Calls Tryz.prog 65 #[.pointer (some ⟨px, 0, none⟩), .int .i64 uv] W (fun e W' => e = .returned (.int .i64 (mS m A P F u)) ∧ PlanOK 107 3 m A P F W' (.slice pA m pc) aA ac qA qc px gk fa fq ∧ Touch [gk] W W')
def BthC (m : Nat) (A : Nat → Int) (P : Nat → Nat → Int) (F : Nat) (pA : Option Addr) (pc : Nat) (aA : Option Addr) (ac : Nat) (qA : Option Addr) (qc px gk : Nat) (fa fq : List Nat) (q : Nat) : Prop := ∀ (W : World) (uv iv kv : Int) (u i k : Nat), uv = (u : Int) → iv = (i : Int) → kv = (k : Int) → u < 2 ^ m → i < m → k < m → 2 ^ m - 1 - (u ||| 2 ^ i ||| 2 ^ k) ≤ q → PlanOK 107 3 m A P F W (.slice pA m pc) aA ac qA qc px gk fa fq →
 Calls Tryz.prog 91 #[.pointer (some ⟨px, 0, none⟩), .int .i64 uv, .int .i64 iv, .int .i64 kv] W (fun e W' => e = .returned (.int .i64 (bothZ m A P F u i k)) ∧ PlanOK 107 3 m A P F W' (.slice pA m pc) aA ac qA qc px gk fa fq ∧ Touch [gk] W W')
set_option maxHeartbeats 4000000 in
theorem both_step {m : Nat} {A : Nat → Int} {P : Nat → Nat → Int} (pin : PlanIn m A P) {F : Nat} (hF : F < 2 ^ m) {pA aA qA : Option Addr} {pc ac qc px gk : Nat} {fa fq : List Nat} {q : Nat} (hc : CstC m A P F pA pc aA ac qA qc px gk fa fq q) : BthC m A P F pA pc aA ac qA qc px gk fa fq q := by
 intro W uv iv kv u i k huv hiv hkv hu hi hk hq hX
 subst huv hiv hkv
 have hm8 := pin.m8
 have h256 : 2 ^ m ≤ 256 := Nat.pow_le_pow_right (n := 2) (by omega) hm8
 have hi12 : i < 12 := by omega
 have hk12 : k < 12 := by omega
 have hxs := hX.xs
 obtain ⟨b, o, b', o', c', rfl, hq1, hq2⟩ := hX.qs hi hk
 have hbF := bit_nat (u := F) (a := i) (by omega)
 have hui := u64w (a := i) (by omega)
 have huk := u64w (a := k) (by omega)
 have hun := u64n (a := i) (by omega)
 have hukn := u64n (a := k) (by omega)
 have hil : (i : Int) < (m : Int) := by omega
 have hkl : (k : Int) < (m : Int) := by omega
 have HX := Lib.hid hX
 have HC := Lib.hid hc
 obtain ⟨p, hp⟩ : ∃ p, p = P i k := ⟨_, rfl⟩
 have hpb := pin.p i k
 rw [← hp] at hq2 hpb
 have HP := Lib.hid hp
 by_cases c1 : F.testBit i = true
 ·rw [if_pos c1] at hbF
  have HR : Hid (bothZ m A P F u i k = -1) := by show _ = _; unfold bothZ thenZ; rw [c1]; rfl
  rw [HR.out]
  clear hX hc c1 hp
  go_enter Tryz.func91, Tryz.ntmps91
  go_wp2
  go_ret
  exact ⟨rfl, HX.out.later inferInstance, Touch.of_later inferInstance⟩
 rw [if_neg c1] at hbF
 by_cases c2 : p < 0
 ·have HR : Hid (bothZ m A P F u i k = -1) := by show _ = _; unfold bothZ thenZ; rw [← hp, decide_eq_false (show ¬ 0 ≤ p by omega), Bool.and_false]; rfl
  rw [HR.out]
  clear hX hc c1 hp
  go_enter Tryz.func91, Tryz.ntmps91
  go_wp2
  go_ret
  exact ⟨rfl, HX.out.later inferInstance, Touch.of_later inferInstance⟩
 obtain ⟨v, hv⟩ : ∃ v, v = u ||| 2 ^ i ||| 2 ^ k := ⟨_, rfl⟩
 rw [← hv] at hq
 obtain ⟨v1, hv1⟩ : ∃ v1, v1 = u ||| 2 ^ i := ⟨_, rfl⟩
 have hvl : v < 2 ^ m := by rw [hv]; exact or_lt2 hu hi hk
 obtain ⟨s, hs⟩ : ∃ s, mS m A P F v = s := ⟨_, rfl⟩
 have hsb := mS_bd pin (F := F) hvl
 rw [hs] at hsb
 have HS := Lib.hid hs
 have HR : Hid (bothZ m A P F u i k = if s < 0 then -1 else 100000 + p + s) := by
  show _ = _
  unfold bothZ thenZ
  rw [← hp, ← hv, hs, decide_eq_true (show 0 ≤ p by omega), show F.testBit i = false from by simpa using c1]
  simp
 have hor1 := or_nat (u := u) (v := 2 ^ i) (by omega) (by have := pow12 hi12; omega)
 have hv1b : v1 < 4096 := by rw [hv1]; exact or12 (by omega) hi12
 have hor2 := or_nat (u := v1) (v := 2 ^ k) (by omega) (by have := pow12 hk12; omega)
 rw [← hv1] at hor1 hv
 rw [← hv] at hor2
 have hs1 := shl12 hi12
 have hs2 := shl12 hk12
 rw [Int.one_mul] at hs1 hs2
 have hq3 : bits BinOp.or IntKind.i64 (u : Int) (IntKind.i64.wrap (2 ^ i)) = (v1 : Int) := by rw [hs1]; exact hor1
 have hq4 : bits BinOp.or IntKind.i64 (v1 : Int) (IntKind.i64.wrap (2 ^ k)) = (v : Int) := by rw [hs2]; exact hor2
 have hq5 : bits BinOp.or IntKind.i64 (u : Int) (wrap64 (2 ^ i)) = (v1 : Int) := by rw [← wrap_64]; exact hq3
 have hq6 : bits BinOp.or IntKind.i64 (v1 : Int) (wrap64 (2 ^ k)) = (v : Int) := by rw [← wrap_64]; exact hq4
 have hw1 : IntKind.i64.wrap (100000 + p) = 100000 + p := by rw [IntKind.wrap_i64]; omega
 have hw2 : IntKind.i64.wrap (100000 + p + s) = 100000 + p + s := by rw [IntKind.wrap_i64]; omega
 have HQ := Lib.hid hq
 rw [HR.out]
 clear hX hc c1 hp hv hv1 hs hor1 hor2 hs1 hs2 hq
 have HX1 := HX
 by_cases c3 : s < 0
 ·rw [if_pos c3]
  go_enter Tryz.func91, Tryz.ntmps91
  go_wp2_with (go_at_call 65; go_loud (refine (HC.out W (v : Int) v rfl hvl HQ.out HX.out).mono ?_; rw [HS.out]; rintro e w5 ⟨rfl, hX5, hT5⟩))
  go_ret
  exact ⟨rfl, hX5.later inferInstance, hT5.trans (Touch.of_later inferInstance)⟩
 ·rw [if_neg c3]
  go_enter Tryz.func91, Tryz.ntmps91
  go_wp2_with (go_at_call 65; go_loud (refine (HC.out W (v : Int) v rfl hvl HQ.out HX.out).mono ?_; rw [HS.out]; rintro e w5 ⟨rfl, hX5, hT5⟩; have hx5 := hX5.xs; obtain ⟨bb, oo, bb', oo', cc', hqq, hq8, hq9⟩ := hX5.qs hi hk; cases hqq; rw [← HP.out] at hq9; have HX5 := Lib.hid hX5; clear hX5))
  go_ret
  exact ⟨rfl, HX5.out.later inferInstance, hT5.trans (Touch.of_later inferInstance)⟩
theorem mGo_bd {m : Nat} {A : Nat → Int} {P : Nat → Nat → Int} (pin : PlanIn m A P) {F u U : Nat} (hu : u < 2 ^ m) (hU : U < m) (j : Nat) (hj : U + 1 + j ≤ m) : -1 ≤ mGo m A P F u U j ∧ mGo m A P F u U j ≤ 31000000 := by
 have hb : ∀ i k, i < m → k < m → -1 ≤ bothZ m A P F u i k ∧ bothZ m A P F u i k ≤ 31000000 := fun i k hi hk => by
  have h1 := mS_bd pin (F := F) (or_lt2 hu hi hk)
  have h2 := pin.p i k
  unfold bothZ thenZ
  split
  ·split <;> omega
  ·omega
 induction j with
 | zero =>
  have h1 := mS_bd pin (F := F) (show u ||| 2 ^ U < 2 ^ m from Nat.or_lt_two_pow hu (Nat.pow_lt_pow_right (by omega) hU))
  have h2 := pin.a U
  simp only [mGo]
  unfold aloneZ thenZ
  split
  ·split <;> omega
  ·omega
 | succ j ih =>
  have ih := ih (by omega)
  simp only [mGo]
  unfold czStep
  split
  ·exact ih
  ·have h1 := hb U (U + 1 + j) hU (by omega)
   have h2 := hb (U + 1 + j) U (by omega) hU
   unfold updZ
   split <;> split <;> omega
theorem low_zero {m u : Nat} (hu : u < 2 ^ m) (hne : u ≠ 2 ^ m - 1) : ∃ U, U < m ∧ u.testBit U = false ∧ ∀ j, j < U → u.testBit j = true := by
 have key : ∀ n : Nat, n ≤ m → (∃ U, U < m ∧ u.testBit U = false ∧ ∀ j, j < U → u.testBit j = true) ∨ ∀ j, j < n → u.testBit j = true := by
  intro n
  induction n with
  | zero =>
   intro _
   exact .inr (fun j hj => by omega)
  | succ n ih =>
   intro hn
   rcases ih (by omega) with h | h
   ·exact .inl h
   ·cases c : u.testBit n with
    | false => exact .inl ⟨n, by omega, c, h⟩
    | true =>
     refine .inr (fun j hj => ?_)
     by_cases e : j = n
     ·subst e; exact c
     ·exact h j (by omega)
 rcases key m (Nat.le_refl _) with h | h
 ·exact h
 ·exfalso
  apply hne
  apply Nat.eq_of_testBit_eq
  intro j
  rw [fulls]
  by_cases hj : j < m
  ·rw [h j hj, decide_eq_true hj]
  ·rw [decide_eq_false hj]
   exact Nat.testBit_lt_two_pow (Nat.lt_of_lt_of_le hu (Nat.pow_le_pow_right (by omega) (by omega)))
set_option maxHeartbeats 8000000 in
theorem cost_step {m : Nat} {A : Nat → Int} {P : Nat → Nat → Int} (pin : PlanIn m A P) {F : Nat} (hF : F < 2 ^ m) {pA aA qA : Option Addr} {pc ac qc px gk : Nat} {fa fq : List Nat} {q : Nat} (hc : ∀ p, q = p + 1 → CstC m A P F pA pc aA ac qA qc px gk fa fq p ∧ BthC m A P F pA pc aA ac qA qc px gk fa fq p) : CstC m A P F pA pc aA ac qA qc px gk fa fq q := by
 intro W uv u huv hu hq hX
 subst huv
 have hm8 := pin.m8
 have h256 : 2 ^ m ≤ 256 := Nat.pow_le_pow_right (n := 2) (by omega) hm8
 have hxs := hX.xs
 have hum := u64w (a := m) (by omega)
 have humn := u64n (a := m) (by omega)
 obtain ⟨N, hN⟩ : ∃ N, N = 2 ^ m := ⟨_, rfl⟩
 have hsN : IntKind.i64.wrap ((2 : Int) ^ m) = (N : Int) := by
  rw [show (2 : Int) ^ m = (N : Int) by rw [hN]; simp, IntKind.wrap_i64]
  omega
 have hsN1 : IntKind.i64.wrap ((N : Int) - 1) = (N : Int) - 1 := by rw [IntKind.wrap_i64]; omega
 have HN := Lib.hid hN
 have huN : u < N := by omega
 have HX := Lib.hid hX
 by_cases c0 : u + 1 = N
 ·have HR : Hid (mS m A P F u = 0) := mS_full fun j hj => by rw [show u = 2 ^ m - 1 by omega, fulls, decide_eq_true hj]
  rw [HR.out]
  have hde : ((u : Int) == (N : Int) - 1) = true := by simp; omega
  have hde2 : (u : Int) = (N : Int) - 1 := by omega
  have HDE := Lib.hid hde2
  clear hX hc hN hde2
  go_enter Tryz.func65, Tryz.ntmps65
  go_wp2_with fail
  go_ret
  exact ⟨rfl, HX.out.later inferInstance, Touch.of_later inferInstance⟩
 have hde : ¬ (u : Int) = (N : Int) - 1 := by omega
 have hd1 := (beqi_f hde).1
 have hd2 := (beqi_f hde).2
 obtain ⟨row, hr1, hr2, hr3⟩ := hX.k
 obtain ⟨v, hv⟩ : ∃ v, row[u]? = some v := ⟨_, List.getElem?_eq_getElem (by omega)⟩
 have hvc := hr1.rowAts hv
 rcases hr3 u v hv with e | e
 rotate_left
 ·by_cases c1 : v = -2
  ·exfalso
   have h9 := mS_bd pin (F := F) hu
   omega
  have hv1 := (beqi_f c1).1
  rw [← e]
  have huNi : (u : Int) < (N : Int) := by omega
  rw [← hN] at hxs
  clear hX hc hN hr1 hr2 hr3 hv e
  go_enter Tryz.func65, Tryz.ntmps65
  go_wp2_with fail
  go_ret
  exact ⟨rfl, HX.out.later inferInstance, Touch.of_later inferInstance⟩
 subst e
 obtain ⟨U, hU, hUb, hUl⟩ := low_zero hu (by omega)
 obtain ⟨q', rfl⟩ : ∃ q', q = q' + 1 := ⟨q - 1, by omega⟩
 obtain ⟨hcc, hbb⟩ := hc q' rfl
 have HC := Lib.hid hcc
 have HB := Lib.hid hbb
 have HGO := Lib.hid (mS_go (A := A) (P := P) (F := F) hU hUb hUl)
 have huNi : (u : Int) < (N : Int) := by omega
 have HUL := Lib.hid hUl
 rw [← hN] at hxs
 have HQ := Lib.hid hq
 clear hX hc hcc hbb hN hr1 hr2 hr3 hv hq hUl
 go_enter Tryz.func65, Tryz.ntmps65
 go_wp2_with fail
 go_loopw [6] (fun av wr => ∃ a : Nat, a ≤ U ∧ av = .int .i64 (a : Int) ∧ Later W wr) (fun av _ => U - (intOf av).toNat)
 case atStart => exact ⟨0, by omega, rfl, inferInstance⟩
 case round =>
  obtain ⟨a, ha, rfl, hL⟩ := hrel
  have hba := bit_nat (u := u) (a := a) (by omega)
  have hua := u64w (a := a) (by omega)
  have huan := u64n (a := a) (by omega)
  by_cases hlt : a < U
  ·rw [if_pos (HUL.out a hlt)] at hba
   go_wp2
   go_roundw
   case rel => exact ⟨a + 1, by omega, by go_num, inferInstance⟩
   case measure => simp [intOf]; omega
  have haU : U = a := by omega
  subst haU
  rw [if_neg (by rw [hUb]; simp)] at hba
  have HXr := Lib.hid (HX.out.later hL)
  have HTr : Hid (Touch [gk] W wr) := Touch.of_later hL
  obtain ⟨ab, ao, rfl, hca⟩ := HXr.out.as hU
  have hUi : (U : Int) < (m : Int) := by omega
  obtain ⟨p, hp⟩ : ∃ p, p = A U := ⟨_, rfl⟩
  have hpb := pin.a U
  rw [← hp] at hca hpb
  have HP := Lib.hid hp
  have hwU : IntKind.i64.wrap ((U : Int) + 1) = (U : Int) + 1 := by rw [IntKind.wrap_i64]; omega
  clear hp
  by_cases cA : 0 ≤ p
  rotate_left
  ·have HB0 : Hid (aloneZ m A P F u U = -1) := by show _ = _; unfold aloneZ thenZ; rw [← HP.out, decide_eq_false cA]; rfl
   go_wp2_with fail
   go_loopw [7, 9] (fun bv kv wr => ∃ j : Nat, U + 1 + j ≤ m ∧ kv = .int .i64 ((U + 1 + j : Nat) : Int) ∧ bv = .int .i64 (mGo m A P F u U j) ∧ Hid (PlanOK 107 3 m A P F wr (.slice pA m pc) (some ⟨ab, ao, none⟩) ac qA qc px gk fa fq) ∧ Hid (Touch [gk] W wr)) (fun _ kv _ => m - (intOf kv).toNat)
   case atStart => exact ⟨0, by omega, by simp, by rw [show mGo m A P F u U 0 = aloneZ m A P F u U from rfl, HB0.out], HXr, HTr⟩
   case round =>
    obtain ⟨j, hj, rfl, rfl, hXr, hT⟩ := hrel
    obtain ⟨k, hke⟩ : ∃ k, k = U + 1 + j := ⟨_, rfl⟩
    rw [← hke]
    have hbA := mGo_bd pin (F := F) hu hU j hj
    obtain ⟨ba, hba⟩ : ∃ ba, ba = mGo m A P F u U j := ⟨_, rfl⟩
    rw [← hba] at hbA ⊢
    have HBA := Lib.hid hba
    have HKE := Lib.hid hke
    have hkm : k ≤ m := by omega
    have hxr := hXr.out.xs
    rw [← HN.out] at hxr
    clear hba hke
    by_cases hkl : k < m
    ·have hbk := bit_nat (u := u) (a := k) (by omega)
     have huk := u64w (a := k) (by omega)
     have hukn := u64n (a := k) (by omega)
     have hkl2 : (k : Int) < (m : Int) := by omega
     by_cases c2 : u.testBit k = true
     ·rw [if_pos c2] at hbk
      have HNX : Hid (mGo m A P F u U (j + 1) = ba) := by show _ = _; simp only [mGo]; unfold czStep; rw [← HKE.out, if_pos c2, HBA.out]
      go_wp2
      go_roundw
      case rel => exact ⟨j + 1, by have := HKE.out; omega, by have := HKE.out; show Value.int _ _ = Value.int _ _; congr 1; omega, by rw [HNX.out], Lib.hid (hXr.out.later inferInstance), Lib.hid (hT.out.trans (Touch.of_later inferInstance))⟩
      case measure => simp [intOf]; omega
     ·rw [if_neg c2] at hbk
      obtain ⟨s1, hs1⟩ : ∃ s1, bothZ m A P F u U k = s1 := ⟨_, rfl⟩
      obtain ⟨s2, hs2⟩ : ∃ s2, bothZ m A P F u k U = s2 := ⟨_, rfl⟩
      have HNX : Hid (mGo m A P F u U (j + 1) = updZ (updZ ba s1) s2) := by show _ = _; simp only [mGo]; unfold czStep; rw [← HKE.out, if_neg c2, ← HBA.out, hs1, hs2]
      have HS1 := Lib.hid hs1
      have HS2 := Lib.hid hs2
      have HM1 : Hid (2 ^ m - 1 - (u ||| 2 ^ U ||| 2 ^ k) ≤ q') := by
       show _ ≤ _
       have h9 := lt_or1 hUb
       have h8 : u ||| 2 ^ U ≤ u ||| 2 ^ U ||| 2 ^ k := Nat.left_le_or
       have := HQ.out
       omega
      have HM2 : Hid (2 ^ m - 1 - (u ||| 2 ^ k ||| 2 ^ U) ≤ q') := by rw [or_comm2]; exact HM1
      clear hs1 hs2 c2
      go_wp2_with fail
      refine (HB.out wr (u : Int) (U : Int) (k : Int) u U k rfl rfl rfl hu hU hkl HM1.out hXr.out).mono ?_
      rw [HS1.out]
      rintro e w6 ⟨rfl, hX6, hT6⟩
      have HX6 := Lib.hid hX6
      have HT6 := Lib.hid hT6
      clear hX6 hT6
      go_wp2_with fail
      all_goals
       refine (HB.out w6 (u : Int) (k : Int) (U : Int) u k U rfl rfl rfl hu hkl hU HM2.out HX6.out).mono ?_
       rw [HS2.out]
       rintro e w7 ⟨rfl, hX7, hT7⟩
       have HX7 := Lib.hid hX7
       have HT7 := Lib.hid hT7
       clear hX7 hT7
       go_wp2_with fail
       all_goals
        go_roundw
        case rel => exact ⟨j + 1, by have := HKE.out; omega, by have := HKE.out; show Value.int _ _ = Value.int _ _; congr 1; omega, by rw [HNX.out]; congr 1; unfold updZ; (repeat' split) <;> omega, Lib.hid (HX7.out.later inferInstance), Lib.hid (((hT.out.trans HT6.out).trans HT7.out).trans (Touch.of_later inferInstance))⟩
        case measure => simp [intOf]; omega
    ·have hkm2 : m = U + 1 + j := by have := HKE.out; omega
     have HEND : Hid (ba = mS m A P F u) := by show _ = _; rw [HBA.out, ← HGO.out, show m - (U + 1) = j by omega]
     obtain ⟨row2, r1, r2, r3⟩ := hXr.out.k
     obtain ⟨v2, hv2⟩ : ∃ v2, row2[u]? = some v2 := ⟨_, List.getElem?_eq_getElem (by omega)⟩
     have hvc2 := r1.rowAts hv2
     have hvf2 : ∀ (l : Nat) (W' : World) [Later wr W'], W'.frozen? ⟨gk, l, none⟩ = false := fun l W' hW' => (r1.later hW').frozen l
     have hkm3 : k = m := by omega
     have hkn : ¬ (k : Int) < (m : Int) := by omega
     clear hkm2 r1 r2 r3 hv2 hkm3
     go_wp2
     go_ret
     exact ⟨ret_int HEND.out, hXr.out.set_ HEND.out, hT.out.set_ (by simp) _ _⟩
  obtain ⟨v, hv⟩ : ∃ v, v = u ||| 2 ^ U := ⟨_, rfl⟩
  have hvl : v < 2 ^ m := by rw [hv]; exact Nat.or_lt_two_pow hu (Nat.pow_lt_pow_right (by omega) hU)
  have hU12 : U < 12 := by omega
  have hor1 := or_nat (u := u) (v := 2 ^ U) (by omega) (by have := pow12 hU12; omega)
  rw [← hv] at hor1
  have hs1 := shl12 hU12
  rw [Int.one_mul] at hs1
  have hq3 : bits BinOp.or IntKind.i64 (u : Int) (IntKind.i64.wrap (2 ^ U)) = (v : Int) := by rw [hs1]; exact hor1
  have hq5 : bits BinOp.or IntKind.i64 (u : Int) (wrap64 (2 ^ U)) = (v : Int) := by rw [← wrap_64]; exact hq3
  have HMV : Hid (2 ^ m - 1 - v ≤ q') := by show _ ≤ _; have h9 := lt_or1 hUb; rw [← hv] at h9; have := HQ.out; omega
  obtain ⟨s, hs⟩ : ∃ s, mS m A P F v = s := ⟨_, rfl⟩
  have hsb := mS_bd pin (F := F) hvl
  rw [hs] at hsb
  have HS := Lib.hid hs
  have hw1 : IntKind.i64.wrap (100000 + p) = 100000 + p := by rw [IntKind.wrap_i64]; omega
  have hw2 : IntKind.i64.wrap (100000 + p + s) = 100000 + p + s := by rw [IntKind.wrap_i64]; omega
  have HBS : Hid (aloneZ m A P F u U = if s < 0 then -1 else 100000 + p + s) := by
   show _ = _
   unfold aloneZ thenZ
   rw [← HP.out, ← hv, hs, decide_eq_true cA]
   simp
  clear hv hs hor1 hs1
  by_cases cS : s < 0
  ·have HB0 : Hid (aloneZ m A P F u U = -1) := by show _ = _; rw [HBS.out, if_pos cS]
   go_wp2_with (go_at_call 65; go_loud (refine (HC.out wr (v : Int) v rfl hvl HMV.out HXr.out).mono ?_; rw [HS.out]; rintro e w5 ⟨rfl, hX5, hT5⟩; have hx5 := hX5.xs; rw [HN.out.symm] at hx5; obtain ⟨bb, oo, hqq, hca5⟩ := hX5.as hU; cases hqq; rw [← HP.out] at hca5))
   have HX5 := Lib.hid hX5
   have HTr5 : Hid (Touch [gk] W w5) := HTr.out.trans hT5
   clear hX5 hT5 hx5 hca5
   go_loopw [7, 9] (fun bv kv wr => ∃ j : Nat, U + 1 + j ≤ m ∧ kv = .int .i64 ((U + 1 + j : Nat) : Int) ∧ bv = .int .i64 (mGo m A P F u U j) ∧ Hid (PlanOK 107 3 m A P F wr (.slice pA m pc) (some ⟨ab, ao, none⟩) ac qA qc px gk fa fq) ∧ Hid (Touch [gk] W wr)) (fun _ kv _ => m - (intOf kv).toNat)
   case atStart => exact ⟨0, by omega, by simp, by rw [show mGo m A P F u U 0 = aloneZ m A P F u U from rfl, HB0.out], HX5, HTr5⟩
   case round =>
    obtain ⟨j, hj, rfl, rfl, hXr, hT⟩ := hrel
    obtain ⟨k, hke⟩ : ∃ k, k = U + 1 + j := ⟨_, rfl⟩
    rw [← hke]
    have hbA := mGo_bd pin (F := F) hu hU j hj
    obtain ⟨ba, hba⟩ : ∃ ba, ba = mGo m A P F u U j := ⟨_, rfl⟩
    rw [← hba] at hbA ⊢
    have HBA := Lib.hid hba
    have HKE := Lib.hid hke
    have hkm : k ≤ m := by omega
    have hxr := hXr.out.xs
    rw [← HN.out] at hxr
    clear hba hke
    by_cases hkl : k < m
    ·have hbk := bit_nat (u := u) (a := k) (by omega)
     have huk := u64w (a := k) (by omega)
     have hukn := u64n (a := k) (by omega)
     have hkl2 : (k : Int) < (m : Int) := by omega
     by_cases c2 : u.testBit k = true
     ·rw [if_pos c2] at hbk
      have HNX : Hid (mGo m A P F u U (j + 1) = ba) := by show _ = _; simp only [mGo]; unfold czStep; rw [← HKE.out, if_pos c2, HBA.out]
      go_wp2
      go_roundw
      case rel => exact ⟨j + 1, by have := HKE.out; omega, by have := HKE.out; show Value.int _ _ = Value.int _ _; congr 1; omega, by rw [HNX.out], Lib.hid (hXr.out.later inferInstance), Lib.hid (hT.out.trans (Touch.of_later inferInstance))⟩
      case measure => simp [intOf]; omega
     ·rw [if_neg c2] at hbk
      obtain ⟨s1, hs1⟩ : ∃ s1, bothZ m A P F u U k = s1 := ⟨_, rfl⟩
      obtain ⟨s2, hs2⟩ : ∃ s2, bothZ m A P F u k U = s2 := ⟨_, rfl⟩
      have HNX : Hid (mGo m A P F u U (j + 1) = updZ (updZ ba s1) s2) := by show _ = _; simp only [mGo]; unfold czStep; rw [← HKE.out, if_neg c2, ← HBA.out, hs1, hs2]
      have HS1 := Lib.hid hs1
      have HS2 := Lib.hid hs2
      have HM1 : Hid (2 ^ m - 1 - (u ||| 2 ^ U ||| 2 ^ k) ≤ q') := by
       show _ ≤ _
       have h9 := lt_or1 hUb
       have h8 : u ||| 2 ^ U ≤ u ||| 2 ^ U ||| 2 ^ k := Nat.left_le_or
       have := HQ.out
       omega
      have HM2 : Hid (2 ^ m - 1 - (u ||| 2 ^ k ||| 2 ^ U) ≤ q') := by rw [or_comm2]; exact HM1
      clear hs1 hs2 c2
      go_wp2_with fail
      refine (HB.out wr (u : Int) (U : Int) (k : Int) u U k rfl rfl rfl hu hU hkl HM1.out hXr.out).mono ?_
      rw [HS1.out]
      rintro e w6 ⟨rfl, hX6, hT6⟩
      have HX6 := Lib.hid hX6
      have HT6 := Lib.hid hT6
      clear hX6 hT6
      go_wp2_with fail
      all_goals
       refine (HB.out w6 (u : Int) (k : Int) (U : Int) u k U rfl rfl rfl hu hkl hU HM2.out HX6.out).mono ?_
       rw [HS2.out]
       rintro e w7 ⟨rfl, hX7, hT7⟩
       have HX7 := Lib.hid hX7
       have HT7 := Lib.hid hT7
       clear hX7 hT7
       go_wp2_with fail
       all_goals
        go_roundw
        case rel => exact ⟨j + 1, by have := HKE.out; omega, by have := HKE.out; show Value.int _ _ = Value.int _ _; congr 1; omega, by rw [HNX.out]; congr 1; unfold updZ; (repeat' split) <;> omega, Lib.hid (HX7.out.later inferInstance), Lib.hid (((hT.out.trans HT6.out).trans HT7.out).trans (Touch.of_later inferInstance))⟩
        case measure => simp [intOf]; omega
    ·have hkm2 : m = U + 1 + j := by have := HKE.out; omega
     have HEND : Hid (ba = mS m A P F u) := by show _ = _; rw [HBA.out, ← HGO.out, show m - (U + 1) = j by omega]
     obtain ⟨row2, r1, r2, r3⟩ := hXr.out.k
     obtain ⟨v2, hv2⟩ : ∃ v2, row2[u]? = some v2 := ⟨_, List.getElem?_eq_getElem (by omega)⟩
     have hvc2 := r1.rowAts hv2
     have hvf2 : ∀ (l : Nat) (W' : World) [Later wr W'], W'.frozen? ⟨gk, l, none⟩ = false := fun l W' hW' => (r1.later hW').frozen l
     have hkm3 : k = m := by omega
     have hkn : ¬ (k : Int) < (m : Int) := by omega
     clear hkm2 r1 r2 r3 hv2 hkm3
     go_wp2
     go_ret
     exact ⟨ret_int HEND.out, hXr.out.set_ HEND.out, hT.out.set_ (by simp) _ _⟩
  ·have HB0 : Hid (aloneZ m A P F u U = 100000 + p + s) := by show _ = _; rw [HBS.out, if_neg cS]
   go_wp2_with (go_at_call 65; go_loud (refine (HC.out wr (v : Int) v rfl hvl HMV.out HXr.out).mono ?_; rw [HS.out]; rintro e w5 ⟨rfl, hX5, hT5⟩; have hx5 := hX5.xs; rw [HN.out.symm] at hx5; obtain ⟨bb, oo, hqq, hca5⟩ := hX5.as hU; cases hqq; rw [← HP.out] at hca5))
   have HX5 := Lib.hid hX5
   have HTr5 : Hid (Touch [gk] W w5) := HTr.out.trans hT5
   clear hX5 hT5 hx5 hca5
   go_loopw [7, 9] (fun bv kv wr => ∃ j : Nat, U + 1 + j ≤ m ∧ kv = .int .i64 ((U + 1 + j : Nat) : Int) ∧ bv = .int .i64 (mGo m A P F u U j) ∧ Hid (PlanOK 107 3 m A P F wr (.slice pA m pc) (some ⟨ab, ao, none⟩) ac qA qc px gk fa fq) ∧ Hid (Touch [gk] W wr)) (fun _ kv _ => m - (intOf kv).toNat)
   case atStart => exact ⟨0, by omega, by simp, by rw [show mGo m A P F u U 0 = aloneZ m A P F u U from rfl, HB0.out], HX5, HTr5⟩
   case round =>
    obtain ⟨j, hj, rfl, rfl, hXr, hT⟩ := hrel
    obtain ⟨k, hke⟩ : ∃ k, k = U + 1 + j := ⟨_, rfl⟩
    rw [← hke]
    have hbA := mGo_bd pin (F := F) hu hU j hj
    obtain ⟨ba, hba⟩ : ∃ ba, ba = mGo m A P F u U j := ⟨_, rfl⟩
    rw [← hba] at hbA ⊢
    have HBA := Lib.hid hba
    have HKE := Lib.hid hke
    have hkm : k ≤ m := by omega
    have hxr := hXr.out.xs
    rw [← HN.out] at hxr
    clear hba hke
    by_cases hkl : k < m
    ·have hbk := bit_nat (u := u) (a := k) (by omega)
     have huk := u64w (a := k) (by omega)
     have hukn := u64n (a := k) (by omega)
     have hkl2 : (k : Int) < (m : Int) := by omega
     by_cases c2 : u.testBit k = true
     ·rw [if_pos c2] at hbk
      have HNX : Hid (mGo m A P F u U (j + 1) = ba) := by show _ = _; simp only [mGo]; unfold czStep; rw [← HKE.out, if_pos c2, HBA.out]
      go_wp2
      go_roundw
      case rel => exact ⟨j + 1, by have := HKE.out; omega, by have := HKE.out; show Value.int _ _ = Value.int _ _; congr 1; omega, by rw [HNX.out], Lib.hid (hXr.out.later inferInstance), Lib.hid (hT.out.trans (Touch.of_later inferInstance))⟩
      case measure => simp [intOf]; omega
     ·rw [if_neg c2] at hbk
      obtain ⟨s1, hs1⟩ : ∃ s1, bothZ m A P F u U k = s1 := ⟨_, rfl⟩
      obtain ⟨s2, hs2⟩ : ∃ s2, bothZ m A P F u k U = s2 := ⟨_, rfl⟩
      have HNX : Hid (mGo m A P F u U (j + 1) = updZ (updZ ba s1) s2) := by show _ = _; simp only [mGo]; unfold czStep; rw [← HKE.out, if_neg c2, ← HBA.out, hs1, hs2]
      have HS1 := Lib.hid hs1
      have HS2 := Lib.hid hs2
      have HM1 : Hid (2 ^ m - 1 - (u ||| 2 ^ U ||| 2 ^ k) ≤ q') := by
       show _ ≤ _
       have h9 := lt_or1 hUb
       have h8 : u ||| 2 ^ U ≤ u ||| 2 ^ U ||| 2 ^ k := Nat.left_le_or
       have := HQ.out
       omega
      have HM2 : Hid (2 ^ m - 1 - (u ||| 2 ^ k ||| 2 ^ U) ≤ q') := by rw [or_comm2]; exact HM1
      clear hs1 hs2 c2
      go_wp2_with fail
      refine (HB.out wr (u : Int) (U : Int) (k : Int) u U k rfl rfl rfl hu hU hkl HM1.out hXr.out).mono ?_
      rw [HS1.out]
      rintro e w6 ⟨rfl, hX6, hT6⟩
      have HX6 := Lib.hid hX6
      have HT6 := Lib.hid hT6
      clear hX6 hT6
      go_wp2_with fail
      all_goals
       refine (HB.out w6 (u : Int) (k : Int) (U : Int) u k U rfl rfl rfl hu hkl hU HM2.out HX6.out).mono ?_
       rw [HS2.out]
       rintro e w7 ⟨rfl, hX7, hT7⟩
       have HX7 := Lib.hid hX7
       have HT7 := Lib.hid hT7
       clear hX7 hT7
       go_wp2_with fail
       all_goals
        go_roundw
        case rel => exact ⟨j + 1, by have := HKE.out; omega, by have := HKE.out; show Value.int _ _ = Value.int _ _; congr 1; omega, by rw [HNX.out]; congr 1; unfold updZ; (repeat' split) <;> omega, Lib.hid (HX7.out.later inferInstance), Lib.hid (((hT.out.trans HT6.out).trans HT7.out).trans (Touch.of_later inferInstance))⟩
        case measure => simp [intOf]; omega
    ·have hkm2 : m = U + 1 + j := by have := HKE.out; omega
     have HEND : Hid (ba = mS m A P F u) := by show _ = _; rw [HBA.out, ← HGO.out, show m - (U + 1) = j by omega]
     obtain ⟨row2, r1, r2, r3⟩ := hXr.out.k
     obtain ⟨v2, hv2⟩ : ∃ v2, row2[u]? = some v2 := ⟨_, List.getElem?_eq_getElem (by omega)⟩
     have hvc2 := r1.rowAts hv2
     have hvf2 : ∀ (l : Nat) (W' : World) [Later wr W'], W'.frozen? ⟨gk, l, none⟩ = false := fun l W' hW' => (r1.later hW').frozen l
     have hkm3 : k = m := by omega
     have hkn : ¬ (k : Int) < (m : Int) := by omega
     clear hkm2 r1 r2 r3 hv2 hkm3
     go_wp2
     go_ret
     exact ⟨ret_int HEND.out, hXr.out.set_ HEND.out, hT.out.set_ (by simp) _ _⟩
theorem cost_all {m : Nat} {A : Nat → Int} {P : Nat → Nat → Int} (pin : PlanIn m A P) {F : Nat} (hF : F < 2 ^ m) {pA aA qA : Option Addr} {pc ac qc px gk : Nat} {fa fq : List Nat} (q : Nat) : CstC m A P F pA pc aA ac qA qc px gk fa fq q ∧ BthC m A P F pA pc aA ac qA qc px gk fa fq q := by
 induction q with
 | zero =>
  have h1 := cost_step pin hF (q := 0) (pA := pA) (pc := pc) (aA := aA) (ac := ac) (qA := qA) (qc := qc) (px := px) (gk := gk) (fa := fa) (fq := fq) (fun p hp => by omega)
  exact ⟨h1, both_step pin hF h1⟩
 | succ q ih =>
  have h1 := cost_step pin hF (q := q + 1) (pA := pA) (pc := pc) (aA := aA) (ac := ac) (qA := qA) (qc := qc) (px := px) (gk := gk) (fa := fa) (fq := fq) (fun p hp => by cases hp; exact ih)
  exact ⟨h1, both_step pin hF h1⟩
end Go.Proofs.YtknhebakebmlcaaGreat
