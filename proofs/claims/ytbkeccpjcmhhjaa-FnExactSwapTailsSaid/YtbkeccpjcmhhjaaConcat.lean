/-
  append(own, l...) of a slice that may be empty; slices.Grow of nil; slices.Concat of lists of numbers.
-/
import Derived.Test.YtbkeccpjcmhhjaaCopy
import Derived.Test.YtbkeccpjcmhhjaaAppN
import Derived.Test.YtbkeccpjcmhhjaaTimeE
namespace Go.Proofs.Ytbkeccpjcmhhjaa
open Go Go.RowKit
set_option linter.unusedVariables false
set_option maxRecDepth 100000
/-- append(own, l...) as one operation; l may be empty. -/
theorem wp_app_M {P : Program} {o : Oper} {a : Act} {K : Act → World → Prop} {Q : Exit → Act → World → Prop} (s x : Operand) (t : TypeId)
    (ho : o.op = .call { callee := .builtin .append, args := #[s, x], argTypes := #[t, t] }) {e : TypeId} (ht : P.underlying t = some (.slice e))
    (hi : (P.info? e).map (fun i => (i.zero, i.size, i.bytes)) = some (some (.int .i64 0), 1, 8))
    {w0 W : World} {base : Nat} {v : Value} {n : Nat} {xs : List Value} (hs : a.eval s = v) (hown : W.ownsRow base e 1 v n xs) (hL : Later w0 W) (hb0 : w0.heap.size ≤ base) (hb1 : base ≤ W.heap.size)
    {A : Option Addr} {m c : Nat} {l : List Int} (hx : a.eval x = .slice A m c) (hl : Ints W A m c l) (hn : n + m ≤ 1073741824)
    (h : ∀ v' w', w'.ownsRow base e 1 v' (n + m) (xs ++ l.map (Value.int .i64)) → Later w0 w' → K (a.put o.dst v') w') : o.wp P a W K Q := by
  obtain ⟨i, i1, i2, i3, i4⟩ := info_parts hi
  have hb : (n + m) * 8 ≤ 140737488355328 := by omega
  by_cases hm : m = 0
  · subst hm
    obtain rfl := hl.nil_of
    cases A with
    | none =>
      have hrun := run_append_none (P := P) (w := W) base t o.type e i 1 ht i1 v n xs hown c
      unfold Oper.wp
      simp [execOp, ho, resolve, invoke, builtin, hs, hx, hrun, Result.andThen]
      exact h v W (by simpa using hown) hL
    | some ad =>
      exact wp_append_own _ s x t ho base e i (.int .i64 0) 1 8 ht i1 i2 i3 i4 rfl (by decide) v n xs hs hown ad 0 c [] hx (by simp) (fun j u hu => by simp at hu) (by simp) (by unfold maxLen; omega) hb hb1 (fun v' w' h2 h3 _ => h v' w' h2 (hL.of_grown h3 fun g hg => Nat.le_trans hb0 (hown.lt g hg).1))
  · obtain ⟨y0, hy0⟩ : ∃ y, l[0]? = some y := ⟨_, List.getElem?_eq_getElem (by have := hl.len; omega)⟩
    obtain ⟨b, o', _, rfl, _, _, _⟩ := hl.el 0 y0 hy0
    refine wp_append_own _ s x t ho base e i (.int .i64 0) 1 8 ht i1 i2 i3 i4 rfl (by decide) v n xs hs hown ⟨b, o', none⟩ m c (l.map (Value.int .i64)) hx (by rw [List.length_map, ← hl.len]; omega) (fun j u hu => ?_) (fun u hu => ?_) (by unfold maxLen; omega) hb hb1 (fun v' w' h2 h3 _ => h v' w' h2 (hL.of_grown h3 fun g hg => Nat.le_trans hb0 (hown.lt g hg).1))
    · rw [List.getElem?_map, Option.map_eq_some_iff] at hu
      obtain ⟨y, hy, rfl⟩ := hu
      obtain ⟨b', o'', es, hA, hel, hc, hr⟩ := hl.el j y hy
      cases hA
      have hadd : (⟨b, o', none⟩ : Addr).add j = ⟨b, o' + j, none⟩ := by unfold Addr.add; split <;> simp_all
      rw [hadd]
      have := hc 0 (.int .i64 y) (by rw [hr.1]; rfl)
      simpa using this
    · obtain ⟨y, _, rfl⟩ := List.mem_map.1 hu
      rfl
theorem wpList_app_M {P : Program} {ops : Array Oper} {rest : List Oper} {o : Oper} {a : Act} {Q : Exit → Act → World → Prop} (hgd : o.guard = none) (s x : Operand) (t : TypeId)
    (ho : o.op = .call { callee := .builtin .append, args := #[s, x], argTypes := #[t, t] }) {e : TypeId} (ht : P.underlying t = some (.slice e))
    (hi : (P.info? e).map (fun i => (i.zero, i.size, i.bytes)) = some (some (.int .i64 0), 1, 8))
    {w0 W : World} {base : Nat} {v : Value} {n : Nat} {xs : List Value} (hs : a.eval s = v) (hown : W.ownsRow base e 1 v n xs) (hL : Later w0 W) (hb0 : w0.heap.size ≤ base) (hb1 : base ≤ W.heap.size)
    {A : Option Addr} {m c : Nat} {l : List Int} (hx : a.eval x = .slice A m c) (hl : Ints W A m c l) (hn : n + m ≤ 1073741824)
    (h : ∀ v' w', w'.ownsRow base e 1 v' (n + m) (xs ++ l.map (Value.int .i64)) → Later w0 w' → wpList P ops Q rest (a.put o.dst v') w') : wpList P ops Q (o :: rest) a W :=
  wpList_plain hgd fun _ hK => wp_app_M s x t ho ht hi hs hown hL hb0 hb1 hx hl hn fun v' w' h2 h3 => hK _ _ (h v' w' h2 h3)
/-- append(nil, make(.., n)...): n zero values in a new block. -/
theorem run_append_zeros {P : Program} (w : World) (t ti ty e : TypeId) (i : TypeInfo) (z : Value) (ht : P.underlying t = some (.slice e)) (hti : P.underlying ti = some (.int .i64)) (hi : P.info? e = some i) (hz : i.zero = some z) (hsz : 0 < i.size)
    (n : Nat) (h0 : 0 < n) (h63 : (n : Int) ≤ 4611686018427387904) (h48 : n * i.bytes ≤ 140737488355328) :
    (Builtin.append_ #[t, ti] ty #[.slice none 0 0, .int .i64 n]).run P w =
      .ok (.slice (some ⟨w.heap.size, 0, none⟩) n (grownCap w n 0 e)) (w.drew.alloc (.cells (Builtin.zeroCells z.cells n ++ Builtin.zeroCells z.cells (grownCap w n 0 e - n)) e)) := by
  have hn : n ≠ 0 := by omega
  have h63' : ¬ (9223372036854775807 < (n : Int)) := by omega
  have h48' : ¬ (281474976710656 < Builtin.nextslicecap n 0 * i.bytes) := by
    have := growslice_fits (need := n) (old := 0) (bytes := i.bytes) h0 h48
    omega
  have hw : IntKind.i64.wrap (n : Int) = (n : Int) := by rw [IntKind.wrap_i64]; omega
  have hneg : ¬ ((n : Int) < 0) := by omega
  have hbig : ¬ (281474976710656 < (n : Int) * (i.bytes : Int)) := by
    have : ((n * i.bytes : Nat) : Int) ≤ 140737488355328 := by omega
    rw [Int.natCast_mul] at this
    omega
  have hns : n * i.size ≠ 0 := by have := Nat.mul_pos h0 hsz; omega
  simp [Builtin.append_, run_underlying ht, run_underlying hti, sizeOf, typeInfo, zeroValue, hi, hz, Builtin.lenOf, asInt, asIntOf, hn, hw, hneg, hbig, hns, h63', h48', Question.forced, run_firstCells_none, newRow, grownCap]
theorem wpList_app_zeros {P : Program} {ops : Array Oper} {rest : List Oper} {o : Oper} {a : Act} {Q : Exit → Act → World → Prop} (hgd : o.guard = none) (s x : Operand) (t ti : TypeId)
    (ho : o.op = .call { callee := .builtin .append, args := #[s, x], argTypes := #[t, ti] }) {w w' : World} {n : Int} {v' : Value} (hs : a.eval s = .slice none 0 0) (hx : a.eval x = .int .i64 n)
    (hr : (Builtin.append_ #[t, ti] o.type #[.slice none 0 0, .int .i64 n]).run P w = .ok v' w') (h : wpList P ops Q rest (a.put o.dst v') w') : wpList P ops Q (o :: rest) a w :=
  wpList_plain hgd fun K hK => by
    unfold Oper.wp execOp
    simp only [ho, resolve, invoke, builtin, Sem.run_bind, Sem.run_pure, Result.andThen_ok, List.map_toArray, List.map_cons, List.map_nil, hs, hx, hr]
    exact hK _ _ h
set_option maxHeartbeats 800000 in
/-- slices.Grow(nil, n): an empty slice of the call's own. -/
theorem slices_Grow0 (n : Nat) (hn : n ≤ 1073741824) (w : World) :
    Calls Try.prog 219 #[.slice none 0 0, .int .i64 n] w fun e w' => ∃ v, e = .returned v ∧ w'.ownsRow w.heap.size 3 1 v 0 [] ∧ Later w w' := by
  obtain ⟨i, i1, i2, i3, i4⟩ := info_parts infoInt
  have hw : IntKind.i64.wrap (n : Int) = (n : Int) := by rw [IntKind.wrap_i64]; omega
  by_cases h0 : n = 0
  · subst h0
    go_enter Try.func219, Try.ntmps219
    go_wp2
    go_ret
    exact ⟨_, rfl, World.ownsRow_nil _ _ _ _, inferInstance⟩
  · have hr := run_append_zeros (P := Try.prog) w 111 3 111 3 i (.int .i64 0) Try.underlying111 Try.underlying3 i1 i2 (by omega) n (by omega) (by omega) (by rw [i4]; omega)
    have hcap := grownCap_ge w n 0 3
    have hmax := grownCap_le_maxLen w n 0 3 (by unfold maxLen; omega)
    have hp : 0 < (n : Int) := by omega
    have hpn : 0 < n := by omega
    obtain ⟨cap, hcp⟩ : ∃ cap, cap = grownCap w n 0 3 := ⟨_, rfl⟩
    obtain ⟨cs, hcs⟩ : ∃ cs, cs = Builtin.zeroCells (Value.int .i64 0).cells n ++ Builtin.zeroCells (Value.int .i64 0).cells (grownCap w n 0 3 - n) := ⟨_, rfl⟩
    have hsz : cs.size = cap := by
      rw [hcs, hcp, Array.size_append, size_zeroCells, size_zeroCells]
      simp [Value.cells]
      omega
    rw [← hcs, ← hcp] at hr
    rw [← hcp] at hcap hmax
    have hc0 : (0 : Int) ≤ (cap : Int) := by omega
    have HR := Lib.hid hr
    clear hcs hcp hr
    go_enter Try.func219, Try.ntmps219
    go_wp2_with (at_builtin; refine wpList_app_zeros rfl _ _ _ _ rfl rfl rfl HR.out ?_)
    go_ret
    exact ⟨_, rfl, ⟨rfl, .inr ⟨w.heap.size, cap, cs, rfl, Nat.le_refl _, heap_alloc_new w.drew _, by omega, hmax, by omega, by simp⟩⟩, inferInstance⟩
set_option maxHeartbeats 1000000 in
theorem slices_ConcatInts {w0 w : World} {A : Option Addr} {n c : Nat} {ls : List (List Int)} (h : Sl 1 (rSl 1 rInt) w0 A n c ls) (hl : Later w0 w) (ht : ls.flatten.length ≤ 1048576) :
    Calls Try.prog 151 #[.slice A n c] w (RetO 1 oInt ls.flatten w) := by
  replace h := h.later hl
  have hn := h.le
  have Hl := Lib.hid h.len
  have HT := Lib.hid ht
  have H64 : Hid (∀ v, v ∈ ls.flatten → I64 v) := by
    intro v hv
    obtain ⟨x, hx, hvx⟩ := List.mem_flatten.1 hv
    obtain ⟨k, hk⟩ := List.getElem?_of_mem hx
    obtain ⟨j, hj⟩ := List.getElem?_of_mem hvx
    obtain ⟨b, o, es, _, _, _, A1, n1, c1, _, h1⟩ := h.el k x hk
    obtain ⟨_, _, _, _, _, _, _, h2⟩ := h1.el j v hj
    exact h2
  have tk : ∀ (k : Nat) (x : List Int), ls[k]? = some x → (ls.take (k + 1)).flatten = (ls.take k).flatten ++ x := fun k x hx => by rw [take_succ_at hx]; simp
  have tl : ∀ k : Nat, (ls.take k).flatten.length ≤ ls.flatten.length := fun k => by
    have : ls.flatten = (ls.take k).flatten ++ (ls.drop k).flatten := by rw [← List.flatten_append, List.take_append_drop]
    rw [this, List.length_append]
    omega
  have TK := Lib.hid tk
  have TL := Lib.hid tl
  clear ht tk tl
  go_enter Try.func151, Try.ntmps151
  go_wp2_with fail
  go_loopw [3, 11] (fun so i wr => ∃ (k : Nat) (q : Nat), k ≤ n ∧ i = .int .i64 k ∧ so = .int .i64 q ∧ Hid (q = (ls.take k).flatten.length) ∧ Later w wr) (fun _ i _ => n - (intOf i).toNat)
  case atStart => exact ⟨0, 0, by omega, rfl, rfl, rfl, inferInstance⟩
  case round =>
    obtain ⟨k, q, hk, rfl, rfl, HQ, hX⟩ := hrel
    by_cases hlt : k < n
    · obtain ⟨b, o, A1, n1, c1, x, rfl, hx, hc0, hi⟩ := Sl.row_ h hlt
      have hq2 : q + n1 = (ls.take (k + 1)).flatten.length := by rw [TK.out k x hx.out, List.length_append, ← HQ.out, hi.len]
      have hqb : q + n1 ≤ 1048576 := by have := TL.out (k + 1); have := HT.out; omega
      have hw1 : IntKind.i64.wrap ((q : Int) + (n1 : Int)) = ((q + n1 : Nat) : Int) := by rw [IntKind.wrap_i64]; omega
      have hn0 : ¬ (((q + n1 : Nat) : Int) < 0) := by omega
      have HQ2 := Lib.hid hq2
      clear hx hi hq2 HQ
      go_wp2_with fail
      go_roundw
      case rel => exact ⟨k + 1, q + n1, by omega, by go_num, by first | rfl | go_num, HQ2, inferInstance⟩
      case measure => simp [intOf]; omega
    have HQ2 : Hid (q = ls.flatten.length) := by show _ = _; rw [HQ.out, List.take_of_length_le (by have := Hl.out; omega)]
    have hqb : q ≤ 1073741824 := by have := HQ2.out; have := HT.out; omega
    clear HQ
    go_wp2_with (go_at_call 219; refine (slices_Grow0 q hqb _).mono ?_; rintro e w1 ⟨v1, rfl, hown1, L1⟩; have X1 := Later.trans (w := w) inferInstance L1)
    have hbw : w.heap.size ≤ wr.heap.size := hX.size
    have HO1 := Lib.hid hown1
    clear hown1
    go_loopw [6, 27] (fun ov i ws => ∃ k : Nat, k ≤ n ∧ i = .int .i64 k ∧ Hid (ws.ownsRow w.heap.size 3 1 ov (ls.take k).flatten.length ((ls.take k).flatten.map (Value.int .i64))) ∧ Later w ws) (fun _ i _ => n - (intOf i).toNat)
    case atStart => exact ⟨0, by omega, rfl, ⟨by simp, HO1.out.2.imp id fun ⟨g, cap, cur, h1, h2, h3⟩ => ⟨g, cap, cur, h1, Nat.le_trans hbw h2, by simpa using h3⟩⟩, inferInstance⟩
    case round =>
      obtain ⟨k, hk, rfl, hown, hX2⟩ := hrel
      by_cases hlt : k < n
      · obtain ⟨b, o, A1, n1, c1, x, rfl, hx, hc0, hi⟩ := Sl.row_ h hlt
        have HI := Lib.hid hi
        have hT := Lib.hid (TK.out k x hx.out)
        have Hx1 := Lib.hid hi.len
        have hle : (ls.take k).flatten.length + n1 ≤ 1073741824 := by
          have h5 := TL.out (k + 1)
          rw [hT.out, List.length_append] at h5
          have := HT.out
          have := Hx1.out
          omega
        clear hx hi
        go_wp2_with (at_builtin; refine wpList_app_M rfl _ _ 111 rfl Try.underlying111 infoInt rfl (by exact hown.out) (inferInstance : Later w _) (Nat.le_refl _) (Later.size (w := w) inferInstance) rfl (HI.out.later inferInstance) hle ?_; intro v' w8 hown' hX8)
        go_roundw
        case rel => exact ⟨k + 1, by omega, by go_num, by show World.ownsRow _ _ _ _ _ _ _; rw [hT.out, List.map_append, List.length_append, ← Hx1.out]; exact hown', inferInstance⟩
        case measure => simp [intOf]; omega
      · have hE : ls.take k = ls := List.take_of_length_le (by have := Hl.out; omega)
        rw [hE] at hown
        clear hE
        go_wp2
        go_ret
        obtain ⟨A9, c9, fp, rfl, ho, hnd, hlo⟩ := OSl.ints_of_own hown.out H64.out
        exact ⟨A9, _, c9, fp, rfl, ho, hnd, hlo, inferInstance⟩
end Go.Proofs.Ytbkeccpjcmhhjaa
