/-
  The departures from a stop, in the reference (l1Put, l2Back, l8Departures).
-/
import Derived.Test.YteijofkkggifhaaProfP
import Derived.Test.YteijofkkggifhaaTimeC
import Derived.Test.YteijofkkggifhaaAppS
import Derived.Test.YteijofkkggifhaaAppK
import Derived.Deep.RegionHeld3
namespace Go.Proofs.Yteijofkkggifhaa
open Go Go.RowKit
set_option linter.unusedVariables false
set_option maxRecDepth 100000
set_option linter.unusedSimpArgs false
/-- A slice of numbers that lies somewhere. -/
def RetIntsAt (l : List Int) (w : World) (e : Ending) (w' : World) : Prop :=
  ∃ g o n c, e = .returned (.slice (some ⟨g, o, none⟩) n c) ∧ Ints w' (some ⟨g, o, none⟩) n c l ∧ Later w w'
theorem own_someS {W : World} {base : Nat} {e : TypeId} {v : Value} {n : Nat} {xs : List Value} (h : W.ownsRow base e 1 v n xs) (hn : 0 < n) : ∃ g c, v = .slice (some ⟨g, 0, none⟩) n c := by
  rcases h.2 with ⟨_, h0⟩ | ⟨g, cap, cur, h1, _⟩
  · omega
  · exact ⟨g, cap, h1⟩
theorem own_eqS {W : World} {base : Nat} {e : TypeId} {v : Value} {n m : Nat} {xs ys : List Value} (h : W.ownsRow base e 1 v n xs) (hm : n = m) (hx : xs = ys) : W.ownsRow base e 1 v m ys := by subst hm; subst hx; exact h
set_option maxHeartbeats 4000000 in
theorem spec_l1Put {w0 w : World} {g o n c : Nat} {l : List Int} (h : Ints w0 (some ⟨g, o, none⟩) n c l) (hl : Later w0 w) (hn : n ≤ 100) (hbd : ∀ y, y ∈ l → I64 y) (v : Int) (hv : I64 v) :
    Calls Try.prog 165 #[.slice (some ⟨g, o, none⟩) n c, .int .i64 v] w (RetIntsAt (putI l v) w) := by
  have hI := h.later hl
  have HI := Lib.hid hI
  have HLN := Lib.hid hI.len
  have hac := hI.cap
  have hacm := hI.max
  have HBD := Lib.hid hbd
  have hr64 := hv
  clear h hbd hI hv
  go_enter Try.func165, Try.ntmps165
  go_wp2_with fail
  go_loopw [5] (fun i wr => ∃ m : Nat, m ≤ n ∧ i = .int .i64 m ∧ Hid (∀ (j : Nat) (y : Int), j < m → l[j]? = some y → y < v) ∧ Later w wr) (fun i _ => n - (intOf i).toNat)
  case atStart => exact ⟨0, by omega, rfl, fun j y hj => by omega, inferInstance⟩
  case round =>
    obtain ⟨m, hm, rfl, HM, hX⟩ := hrel
    by_cases hlt : m < n
    · obtain ⟨b1, o1, y, hA1, hy, hcy, _⟩ := Ints.at_ HI.out hlt
      cases hA1
      have hmt : (m : Int) < n := by omega
      by_cases cy : y < v
      · have HM2 : Hid (∀ (j : Nat) (z : Int), j < m + 1 → l[j]? = some z → z < v) := fun j z hj hz => by
          by_cases e : j = m
          · subst e; rw [hy.out] at hz; obtain rfl := Option.some.inj hz; exact cy
          · exact HM.out j z (by omega) hz
        clear HM hy
        go_wp2
        go_roundw
        case rel => exact ⟨m + 1, by omega, by go_num, HM2, inferInstance⟩
        case measure => simp [intOf]; omega
      · by_cases ce : y = v
        · have HIN : Hid (putI l v = l) := (putI_at (by have := HLN.out; omega) HM.out).1 y hy.out cy ce
          have e1 := (beqi_t ce).1
          have e2 := (beqi_t ce).2
          clear HM hy ce
          go_wp2
          go_ret
          exact ⟨g, o, n, c, rfl, by rw [HIN.out]; exact HI.out.later inferInstance, inferInstance⟩
        · have HIN : Hid (putI l v = l.take m ++ [v] ++ l.drop m) := (putI_at (by have := HLN.out; omega) HM.out).2 fun z hz => by rw [hy.out] at hz; obtain rfl := Option.some.inj hz; exact ⟨cy, ce⟩
          have e1 := (beqi_f ce).1
          have e2 := (beqi_f ce).2
          clear hy ce
          have HIF := Lib.hid (HI.out.front_ hm)
          have HIB := Lib.hid (HI.out.back_ hm)
          have h49 := Later.size (w := w) (W := wr) inferInstance
          have hmi : (m : Int) ≤ n := by omega
          have hmc : (m : Int) ≤ c := by omega
          clear HM
          have hcm : ¬ c = m := by omega
          have HIB2 : Hid (Ints w (some ⟨g, o + m, none⟩) (n - m) (c - m) (l.drop m)) := HIB.out
          clear HIB
          go_wp2_with fail
          refine wp_region_held_drew (S := (fun w' => Later w w')) (by kernel_rfl) (by exact inferInstance) (fun hHeld => ?_)
          refine wpAnyH_take (i := 1) (v := ?_) (by simp only [List.getElem?_toArray, List.getElem?_cons_succ, List.getElem?_cons_zero] <;> rfl) (by kernel_rfl) (by kernel_rfl) (by kernel_rfl) (by exact fun _ _ _ h => h) (Or.inl ⟨by kernel_rfl, ?_⟩) (by assumption) ?_
          rotate_left
          · intro w' hSw; (try dsimp only at hSw); go_simp; try with_reducible rfl
          try simp only [Act.put, List.setIfInBounds_toArray, List.set_cons_zero, List.set_cons_succ]
          refine wpAnyH_take (i := 2) (v := ?_) (by simp only [List.getElem?_toArray, List.getElem?_cons_succ, List.getElem?_cons_zero] <;> rfl) (by kernel_rfl) (by kernel_rfl) (by kernel_rfl) (by exact fun _ _ _ h => h) (Or.inl ⟨by kernel_rfl, ?_⟩) (by assumption) ?_
          rotate_left
          · intro w' hSw; (try dsimp only at hSw); go_simp; try with_reducible rfl
          try simp only [Act.put, List.setIfInBounds_toArray, List.set_cons_zero, List.set_cons_succ]
          refine wpAnyH_take (i := 3) (v := ?_) (by simp only [List.getElem?_toArray, List.getElem?_cons_succ, List.getElem?_cons_zero] <;> rfl) (by kernel_rfl) (by kernel_rfl) (by kernel_rfl) (by exact fun _ _ _ h => h) (Or.inl ⟨by kernel_rfl, ?_⟩) (by assumption) ?_
          rotate_left
          · intro w' hSw; (try dsimp only at hSw); go_simp; try with_reducible rfl
          try simp only [Act.put, List.setIfInBounds_toArray, List.set_cons_zero, List.set_cons_succ]
          refine wpAnyH_take (i := 5) (v := ?_) (by simp only [List.getElem?_toArray, List.getElem?_cons_succ, List.getElem?_cons_zero] <;> rfl) (by kernel_rfl) (by kernel_rfl) (by kernel_rfl) (by exact fun _ _ _ h => h) (Or.inl ⟨by kernel_rfl, ?_⟩) (by assumption) ?_
          rotate_left
          · intro w' hSw; (try dsimp only at hSw); go_simp; try with_reducible rfl
          try simp only [Act.put, List.setIfInBounds_toArray, List.set_cons_zero, List.set_cons_succ]
          refine wpAnyH_take (i := 8) (v := ?_) (by simp only [List.getElem?_toArray, List.getElem?_cons_succ, List.getElem?_cons_zero] <;> rfl) (by kernel_rfl) (by kernel_rfl) (by kernel_rfl) (by exact fun _ _ _ h => h) (Or.inl ⟨by kernel_rfl, ?_⟩) (by assumption) ?_
          rotate_left
          · intro w' hSw; (try dsimp only at hSw); go_simp; try with_reducible rfl
          try simp only [Act.put, List.setIfInBounds_toArray, List.set_cons_zero, List.set_cons_succ]
          refine wpAnyH_take (i := 9) (v := ?_) (by simp only [List.getElem?_toArray, List.getElem?_cons_succ, List.getElem?_cons_zero] <;> rfl) (by kernel_rfl) (by kernel_rfl) (by kernel_rfl) (by exact fun _ _ _ h => h) (Or.inl ⟨by kernel_rfl, ?_⟩) (by assumption) ?_
          rotate_left
          · intro w' hSw; (try dsimp only at hSw); go_simp; try with_reducible rfl
          try simp only [Act.put, List.setIfInBounds_toArray, List.set_cons_zero, List.set_cons_succ]
          refine wpAnyH_take (i := 10) (v := ?_) (by simp only [List.getElem?_toArray, List.getElem?_cons_succ, List.getElem?_cons_zero] <;> rfl) (by kernel_rfl) (by kernel_rfl) (by kernel_rfl) (by exact fun _ _ _ h => h) (Or.inl ⟨by kernel_rfl, ?_⟩) (by assumption) ?_
          rotate_left
          · intro w' hSw; (try dsimp only at hSw); go_simp; try with_reducible rfl
          try simp only [Act.put, List.setIfInBounds_toArray, List.set_cons_zero, List.set_cons_succ]
          refine wpAnyH_ready (rs := [0, 6]) (by kernel_rfl) (by simp) (AllReadyH.cons rfl (fun K hK => ?r10x1_2_3_5_8_9_10_0) (AllReadyH.cons rfl (fun K hK => ?r10x1_2_3_5_8_9_10_6) AllReadyH.nil))
          case' r10x1_2_3_5_8_9_10_0 =>
            go_simp
            skip
            refine hK.out _ _ (by exact inferInstance) (fun hHeld => ?_)
            try simp only [Act.put, List.setIfInBounds_toArray, List.set_cons_zero, List.set_cons_succ]
            refine wpAnyH_ready (rs := [4, 6]) (by kernel_rfl) (by simp) (AllReadyH.cons rfl (fun K hK => ?r10x0_1_2_3_5_8_9_10_4) (AllReadyH.cons rfl (fun K hK => ?r10x0_1_2_3_5_8_9_10_6) AllReadyH.nil))
            case' r10x0_1_2_3_5_8_9_10_4 =>
              refine wp_app_NG (w0 := w) (base := w.heap.size) _ _ 80 rfl Try.underlying80 infoInt rfl (v := .slice (some ⟨_, 0, none⟩) 0 0) (own_lit0 (by first | exact heap_new (by simp) | exact (heap_old (by simp)).trans (heap_new (by simp))) (by first | exact h49 | (simp; omega) | omega)) inferInstance (Nat.le_refl _) (Later.size (w := w) inferInstance) rfl (HIF.out.later inferInstance) (by omega) ?_; intro v1 w11 hown1 hX1 hG1; (first | (have h6 : Blk w11 (wr.heap.size + 1) 3 #[.int .i64 v] := grown_blk hG1 (by exact heap_new (by simp)) (fun k hk => by simp [Value.ownBlock] at hk; omega)) | (have h6 : Blk w11 wr.heap.size 3 #[.int .i64 v] := grown_blk hG1 (by exact (heap_old (by simp)).trans (heap_new (by simp))) (fun k hk => by simp [Value.ownBlock] at hk; omega)) | skip)
              refine hK.out _ _ (by exact inferInstance) (fun hHeld => ?_)
              try simp only [Act.put, List.setIfInBounds_toArray, List.set_cons_zero, List.set_cons_succ]
              refine wpAnyH_ready (rs := [6]) (by kernel_rfl) (by simp) (AllReadyH.cons rfl (fun K hK => ?_) AllReadyH.nil)
              go_simp
              skip
              refine hK.out _ _ (by exact inferInstance) (fun hHeld => ?_)
              try simp only [Act.put, List.setIfInBounds_toArray, List.set_cons_zero, List.set_cons_succ]
              refine wpAnyH_ready (rs := [7]) (by kernel_rfl) (by simp) (AllReadyH.cons rfl (fun K hK => ?_) AllReadyH.nil)
              refine wp_app_NG (w0 := w) (base := w.heap.size) _ _ 80 rfl Try.underlying80 infoInt rfl (by exact ownsRow_later hown1 (inferInstance : Later w11 _)) inferInstance (Nat.le_refl _) (Later.size (w := w) inferInstance) rfl (ints_lit1 (t := 3) (by first | exact h6 | exact heap_new (by simp)) hr64) (by omega) ?_; intro v2 w12 hown2 hX2' hG2
              refine hK.out _ _ (by exact inferInstance) (fun hHeld => ?_)
              try simp only [Act.put, List.setIfInBounds_toArray, List.set_cons_zero, List.set_cons_succ]
              refine wpAnyH_ready (rs := [11]) (by kernel_rfl) (by simp) (AllReadyH.cons rfl (fun K hK => ?_) AllReadyH.nil)
              refine wp_app_NG (w0 := w) (base := w.heap.size) _ _ 80 rfl Try.underlying80 infoInt rfl (by exact ownsRow_later hown2 (inferInstance : Later w12 _)) inferInstance (Nat.le_refl _) (Later.size (w := w) inferInstance) rfl (by first | exact HIB2.out.later inferInstance | exact HIB3.out.later inferInstance | exact HIB4.out.later inferInstance) (by omega) ?_; intro v3 w13 hown3 hX3 hG3
              refine hK.out _ _ (by exact inferInstance) (fun hHeld => ?_)
              try simp only [Act.put, List.setIfInBounds_toArray, List.set_cons_zero, List.set_cons_succ]
              refine wpAnyH_take (i := 12) (v := ?_) (by simp only [List.getElem?_toArray, List.getElem?_cons_succ, List.getElem?_cons_zero] <;> rfl) (by kernel_rfl) (by kernel_rfl) (by kernel_rfl) (by exact fun _ _ _ h => h) (Or.inl ⟨by kernel_rfl, ?_⟩) (by assumption) ?_
              rotate_left
              · intro w' hSw; (try dsimp only at hSw); go_simp; try with_reducible rfl
              try simp only [Act.put, List.setIfInBounds_toArray, List.set_cons_zero, List.set_cons_succ]
              refine wpAnyH_done (by kernel_rfl) ?_ _
            case' r10x0_1_2_3_5_8_9_10_6 =>
              go_simp
              skip
              refine hK.out _ _ (by exact inferInstance) (fun hHeld => ?_)
              try simp only [Act.put, List.setIfInBounds_toArray, List.set_cons_zero, List.set_cons_succ]
              refine wpAnyH_ready (rs := [4]) (by kernel_rfl) (by simp) (AllReadyH.cons rfl (fun K hK => ?_) AllReadyH.nil)
              refine wp_app_NG (w0 := w) (base := w.heap.size) _ _ 80 rfl Try.underlying80 infoInt rfl (v := .slice (some ⟨_, 0, none⟩) 0 0) (own_lit0 (by first | exact heap_new (by simp) | exact (heap_old (by simp)).trans (heap_new (by simp))) (by first | exact h49 | (simp; omega) | omega)) inferInstance (Nat.le_refl _) (Later.size (w := w) inferInstance) rfl (HIF.out.later inferInstance) (by omega) ?_; intro v1 w11 hown1 hX1 hG1; (first | (have h6 : Blk w11 (wr.heap.size + 1) 3 #[.int .i64 v] := grown_blk hG1 (by exact heap_new (by simp)) (fun k hk => by simp [Value.ownBlock] at hk; omega)) | (have h6 : Blk w11 wr.heap.size 3 #[.int .i64 v] := grown_blk hG1 (by exact (heap_old (by simp)).trans (heap_new (by simp))) (fun k hk => by simp [Value.ownBlock] at hk; omega)) | skip)
              refine hK.out _ _ (by exact inferInstance) (fun hHeld => ?_)
              try simp only [Act.put, List.setIfInBounds_toArray, List.set_cons_zero, List.set_cons_succ]
              refine wpAnyH_ready (rs := [7]) (by kernel_rfl) (by simp) (AllReadyH.cons rfl (fun K hK => ?_) AllReadyH.nil)
              refine wp_app_NG (w0 := w) (base := w.heap.size) _ _ 80 rfl Try.underlying80 infoInt rfl (by exact ownsRow_later hown1 (inferInstance : Later w11 _)) inferInstance (Nat.le_refl _) (Later.size (w := w) inferInstance) rfl (ints_lit1 (t := 3) (by first | exact h6 | exact heap_new (by simp)) hr64) (by omega) ?_; intro v2 w12 hown2 hX2' hG2
              refine hK.out _ _ (by exact inferInstance) (fun hHeld => ?_)
              try simp only [Act.put, List.setIfInBounds_toArray, List.set_cons_zero, List.set_cons_succ]
              refine wpAnyH_ready (rs := [11]) (by kernel_rfl) (by simp) (AllReadyH.cons rfl (fun K hK => ?_) AllReadyH.nil)
              refine wp_app_NG (w0 := w) (base := w.heap.size) _ _ 80 rfl Try.underlying80 infoInt rfl (by exact ownsRow_later hown2 (inferInstance : Later w12 _)) inferInstance (Nat.le_refl _) (Later.size (w := w) inferInstance) rfl (by first | exact HIB2.out.later inferInstance | exact HIB3.out.later inferInstance | exact HIB4.out.later inferInstance) (by omega) ?_; intro v3 w13 hown3 hX3 hG3
              refine hK.out _ _ (by exact inferInstance) (fun hHeld => ?_)
              try simp only [Act.put, List.setIfInBounds_toArray, List.set_cons_zero, List.set_cons_succ]
              refine wpAnyH_take (i := 12) (v := ?_) (by simp only [List.getElem?_toArray, List.getElem?_cons_succ, List.getElem?_cons_zero] <;> rfl) (by kernel_rfl) (by kernel_rfl) (by kernel_rfl) (by exact fun _ _ _ h => h) (Or.inl ⟨by kernel_rfl, ?_⟩) (by assumption) ?_
              rotate_left
              · intro w' hSw; (try dsimp only at hSw); go_simp; try with_reducible rfl
              try simp only [Act.put, List.setIfInBounds_toArray, List.set_cons_zero, List.set_cons_succ]
              refine wpAnyH_done (by kernel_rfl) ?_ _
          case' r10x1_2_3_5_8_9_10_6 =>
            go_simp
            skip
            refine hK.out _ _ (by exact inferInstance) (fun hHeld => ?_)
            try simp only [Act.put, List.setIfInBounds_toArray, List.set_cons_zero, List.set_cons_succ]
            refine wpAnyH_ready (rs := [0]) (by kernel_rfl) (by simp) (AllReadyH.cons rfl (fun K hK => ?_) AllReadyH.nil)
            go_simp
            skip
            refine hK.out _ _ (by exact inferInstance) (fun hHeld => ?_)
            try simp only [Act.put, List.setIfInBounds_toArray, List.set_cons_zero, List.set_cons_succ]
            refine wpAnyH_ready (rs := [4]) (by kernel_rfl) (by simp) (AllReadyH.cons rfl (fun K hK => ?_) AllReadyH.nil)
            refine wp_app_NG (w0 := w) (base := w.heap.size) _ _ 80 rfl Try.underlying80 infoInt rfl (v := .slice (some ⟨_, 0, none⟩) 0 0) (own_lit0 (by first | exact heap_new (by simp) | exact (heap_old (by simp)).trans (heap_new (by simp))) (by first | exact h49 | (simp; omega) | omega)) inferInstance (Nat.le_refl _) (Later.size (w := w) inferInstance) rfl (HIF.out.later inferInstance) (by omega) ?_; intro v1 w11 hown1 hX1 hG1; (first | (have h6 : Blk w11 (wr.heap.size + 1) 3 #[.int .i64 v] := grown_blk hG1 (by exact heap_new (by simp)) (fun k hk => by simp [Value.ownBlock] at hk; omega)) | (have h6 : Blk w11 wr.heap.size 3 #[.int .i64 v] := grown_blk hG1 (by exact (heap_old (by simp)).trans (heap_new (by simp))) (fun k hk => by simp [Value.ownBlock] at hk; omega)) | skip)
            refine hK.out _ _ (by exact inferInstance) (fun hHeld => ?_)
            try simp only [Act.put, List.setIfInBounds_toArray, List.set_cons_zero, List.set_cons_succ]
            refine wpAnyH_ready (rs := [7]) (by kernel_rfl) (by simp) (AllReadyH.cons rfl (fun K hK => ?_) AllReadyH.nil)
            refine wp_app_NG (w0 := w) (base := w.heap.size) _ _ 80 rfl Try.underlying80 infoInt rfl (by exact ownsRow_later hown1 (inferInstance : Later w11 _)) inferInstance (Nat.le_refl _) (Later.size (w := w) inferInstance) rfl (ints_lit1 (t := 3) (by first | exact h6 | exact heap_new (by simp)) hr64) (by omega) ?_; intro v2 w12 hown2 hX2' hG2
            refine hK.out _ _ (by exact inferInstance) (fun hHeld => ?_)
            try simp only [Act.put, List.setIfInBounds_toArray, List.set_cons_zero, List.set_cons_succ]
            refine wpAnyH_ready (rs := [11]) (by kernel_rfl) (by simp) (AllReadyH.cons rfl (fun K hK => ?_) AllReadyH.nil)
            refine wp_app_NG (w0 := w) (base := w.heap.size) _ _ 80 rfl Try.underlying80 infoInt rfl (by exact ownsRow_later hown2 (inferInstance : Later w12 _)) inferInstance (Nat.le_refl _) (Later.size (w := w) inferInstance) rfl (by first | exact HIB2.out.later inferInstance | exact HIB3.out.later inferInstance | exact HIB4.out.later inferInstance) (by omega) ?_; intro v3 w13 hown3 hX3 hG3
            refine hK.out _ _ (by exact inferInstance) (fun hHeld => ?_)
            try simp only [Act.put, List.setIfInBounds_toArray, List.set_cons_zero, List.set_cons_succ]
            refine wpAnyH_take (i := 12) (v := ?_) (by simp only [List.getElem?_toArray, List.getElem?_cons_succ, List.getElem?_cons_zero] <;> rfl) (by kernel_rfl) (by kernel_rfl) (by kernel_rfl) (by exact fun _ _ _ h => h) (Or.inl ⟨by kernel_rfl, ?_⟩) (by assumption) ?_
            rotate_left
            · intro w' hSw; (try dsimp only at hSw); go_simp; try with_reducible rfl
            try simp only [Act.put, List.setIfInBounds_toArray, List.set_cons_zero, List.set_cons_succ]
            refine wpAnyH_done (by kernel_rfl) ?_ _
          all_goals
            obtain ⟨g3, c3, rfl⟩ := own_someS hown3 (by omega)
            obtain ⟨A9, c9, fp9, hov9, ho9, _, _⟩ := OSl.ints_of_own (l := putI l v) (n := (putI l v).length) (own_eqS hown3 (by have := HLN.out; rw [HIN.out]; simp; omega) (by rw [HIN.out]; simp)) (fun y hy => by
              rcases (putI_mem l v y).1 hy with rfl | h
              · exact hr64
              · exact HBD.out y h)
            have h9 : Ints w13 A9 (putI l v).length c9 (putI l v) := ho9.reads
            have HH9 := Lib.hid h9
            have HOV := Lib.hid hov9
            clear hown1 hown2 hown3 hG1 hG2 hG3 ho9 h9 hov9
            go_wp2_with fail
            go_ret
            refine ⟨g3, 0, m + 1 + (n - m), c3, by simp <;> omega, ?_, inferInstance⟩
            have h1 := HOV.out
            simp only [Value.slice.injEq] at h1
            obtain ⟨e1, e2, e3⟩ := h1
            subst e1 e3
            exact ⟨by have := HH9.out.len; omega, by have := HH9.out.cap; omega, HH9.out.max, HH9.out.el⟩
    · have HIN : Hid (putI l v = l.take m ++ [v] ++ l.drop m) := (putI_at (by have := HLN.out; omega) HM.out).2 fun z hz => by rw [List.getElem?_eq_none (by have := HLN.out; omega)] at hz; cases hz
      have hmt : ¬ (m : Int) < n := by omega
      have HIF := Lib.hid (HI.out.front_ hm)
      have HIB := Lib.hid (HI.out.back_ hm)
      have h49 := Later.size (w := w) (W := wr) inferInstance
      have hmi : (m : Int) ≤ n := by omega
      have hmc : (m : Int) ≤ c := by omega
      clear HM
      by_cases hcm : c = m
      · have HIB2 : Hid (Ints w (some ⟨g, o, none⟩) (n - m) (c - m) (l.drop m)) := ⟨by rw [List.length_drop]; have := HLN.out; omega, by omega, by omega, fun j x hx => by rw [List.drop_eq_nil_of_le (by have := HLN.out; omega)] at hx; simp at hx⟩
        have HIB3 : Hid (Ints w (some ⟨g, o, none⟩) (n - m) 0 (l.drop m)) := ⟨by rw [List.length_drop]; have := HLN.out; omega, by omega, by omega, fun j x hx => by rw [List.drop_eq_nil_of_le (by have := HLN.out; omega)] at hx; simp at hx⟩
        have HIB4 : Hid (Ints w (some ⟨g, o, none⟩) 0 0 (l.drop m)) := ⟨by rw [List.length_drop]; have := HLN.out; omega, by omega, by omega, fun j x hx => by rw [List.drop_eq_nil_of_le (by have := HLN.out; omega)] at hx; simp at hx⟩
        clear HIB
        subst hcm
        go_wp2_with fail
        refine wp_region_held_drew (S := (fun w' => Later w w')) (by kernel_rfl) (by exact inferInstance) (fun hHeld => ?_)
        refine wpAnyH_take (i := 1) (v := ?_) (by simp only [List.getElem?_toArray, List.getElem?_cons_succ, List.getElem?_cons_zero] <;> rfl) (by kernel_rfl) (by kernel_rfl) (by kernel_rfl) (by exact fun _ _ _ h => h) (Or.inl ⟨by kernel_rfl, ?_⟩) (by assumption) ?_
        rotate_left
        · intro w' hSw; (try dsimp only at hSw); go_simp; try with_reducible rfl
        try simp only [Act.put, List.setIfInBounds_toArray, List.set_cons_zero, List.set_cons_succ]
        refine wpAnyH_take (i := 2) (v := ?_) (by simp only [List.getElem?_toArray, List.getElem?_cons_succ, List.getElem?_cons_zero] <;> rfl) (by kernel_rfl) (by kernel_rfl) (by kernel_rfl) (by exact fun _ _ _ h => h) (Or.inl ⟨by kernel_rfl, ?_⟩) (by assumption) ?_
        rotate_left
        · intro w' hSw; (try dsimp only at hSw); go_simp; try with_reducible rfl
        try simp only [Act.put, List.setIfInBounds_toArray, List.set_cons_zero, List.set_cons_succ]
        refine wpAnyH_take (i := 3) (v := ?_) (by simp only [List.getElem?_toArray, List.getElem?_cons_succ, List.getElem?_cons_zero] <;> rfl) (by kernel_rfl) (by kernel_rfl) (by kernel_rfl) (by exact fun _ _ _ h => h) (Or.inl ⟨by kernel_rfl, ?_⟩) (by assumption) ?_
        rotate_left
        · intro w' hSw; (try dsimp only at hSw); go_simp; try with_reducible rfl
        try simp only [Act.put, List.setIfInBounds_toArray, List.set_cons_zero, List.set_cons_succ]
        refine wpAnyH_take (i := 5) (v := ?_) (by simp only [List.getElem?_toArray, List.getElem?_cons_succ, List.getElem?_cons_zero] <;> rfl) (by kernel_rfl) (by kernel_rfl) (by kernel_rfl) (by exact fun _ _ _ h => h) (Or.inl ⟨by kernel_rfl, ?_⟩) (by assumption) ?_
        rotate_left
        · intro w' hSw; (try dsimp only at hSw); go_simp; try with_reducible rfl
        try simp only [Act.put, List.setIfInBounds_toArray, List.set_cons_zero, List.set_cons_succ]
        refine wpAnyH_take (i := 8) (v := ?_) (by simp only [List.getElem?_toArray, List.getElem?_cons_succ, List.getElem?_cons_zero] <;> rfl) (by kernel_rfl) (by kernel_rfl) (by kernel_rfl) (by exact fun _ _ _ h => h) (Or.inl ⟨by kernel_rfl, ?_⟩) (by assumption) ?_
        rotate_left
        · intro w' hSw; (try dsimp only at hSw); go_simp; try with_reducible rfl
        try simp only [Act.put, List.setIfInBounds_toArray, List.set_cons_zero, List.set_cons_succ]
        refine wpAnyH_take (i := 9) (v := ?_) (by simp only [List.getElem?_toArray, List.getElem?_cons_succ, List.getElem?_cons_zero] <;> rfl) (by kernel_rfl) (by kernel_rfl) (by kernel_rfl) (by exact fun _ _ _ h => h) (Or.inl ⟨by kernel_rfl, ?_⟩) (by assumption) ?_
        rotate_left
        · intro w' hSw; (try dsimp only at hSw); go_simp; try with_reducible rfl
        try simp only [Act.put, List.setIfInBounds_toArray, List.set_cons_zero, List.set_cons_succ]
        refine wpAnyH_take (i := 10) (v := ?_) (by simp only [List.getElem?_toArray, List.getElem?_cons_succ, List.getElem?_cons_zero] <;> rfl) (by kernel_rfl) (by kernel_rfl) (by kernel_rfl) (by exact fun _ _ _ h => h) (Or.inl ⟨by kernel_rfl, ?_⟩) (by assumption) ?_
        rotate_left
        · intro w' hSw; (try dsimp only at hSw); go_simp; try with_reducible rfl
        try simp only [Act.put, List.setIfInBounds_toArray, List.set_cons_zero, List.set_cons_succ]
        refine wpAnyH_ready (rs := [0, 6]) (by kernel_rfl) (by simp) (AllReadyH.cons rfl (fun K hK => ?r11x1_2_3_5_8_9_10_0) (AllReadyH.cons rfl (fun K hK => ?r11x1_2_3_5_8_9_10_6) AllReadyH.nil))
        case' r11x1_2_3_5_8_9_10_0 =>
          go_simp
          skip
          refine hK.out _ _ (by exact inferInstance) (fun hHeld => ?_)
          try simp only [Act.put, List.setIfInBounds_toArray, List.set_cons_zero, List.set_cons_succ]
          refine wpAnyH_ready (rs := [4, 6]) (by kernel_rfl) (by simp) (AllReadyH.cons rfl (fun K hK => ?r11x0_1_2_3_5_8_9_10_4) (AllReadyH.cons rfl (fun K hK => ?r11x0_1_2_3_5_8_9_10_6) AllReadyH.nil))
          case' r11x0_1_2_3_5_8_9_10_4 =>
            refine wp_app_NG (w0 := w) (base := w.heap.size) _ _ 80 rfl Try.underlying80 infoInt rfl (v := .slice (some ⟨_, 0, none⟩) 0 0) (own_lit0 (by first | exact heap_new (by simp) | exact (heap_old (by simp)).trans (heap_new (by simp))) (by first | exact h49 | (simp; omega) | omega)) inferInstance (Nat.le_refl _) (Later.size (w := w) inferInstance) rfl (HIF.out.later inferInstance) (by omega) ?_; intro v1 w11 hown1 hX1 hG1; (first | (have h6 : Blk w11 (wr.heap.size + 1) 3 #[.int .i64 v] := grown_blk hG1 (by exact heap_new (by simp)) (fun k hk => by simp [Value.ownBlock] at hk; omega)) | (have h6 : Blk w11 wr.heap.size 3 #[.int .i64 v] := grown_blk hG1 (by exact (heap_old (by simp)).trans (heap_new (by simp))) (fun k hk => by simp [Value.ownBlock] at hk; omega)) | skip)
            refine hK.out _ _ (by exact inferInstance) (fun hHeld => ?_)
            try simp only [Act.put, List.setIfInBounds_toArray, List.set_cons_zero, List.set_cons_succ]
            refine wpAnyH_ready (rs := [6]) (by kernel_rfl) (by simp) (AllReadyH.cons rfl (fun K hK => ?_) AllReadyH.nil)
            go_simp
            skip
            refine hK.out _ _ (by exact inferInstance) (fun hHeld => ?_)
            try simp only [Act.put, List.setIfInBounds_toArray, List.set_cons_zero, List.set_cons_succ]
            refine wpAnyH_ready (rs := [7]) (by kernel_rfl) (by simp) (AllReadyH.cons rfl (fun K hK => ?_) AllReadyH.nil)
            refine wp_app_NG (w0 := w) (base := w.heap.size) _ _ 80 rfl Try.underlying80 infoInt rfl (by exact ownsRow_later hown1 (inferInstance : Later w11 _)) inferInstance (Nat.le_refl _) (Later.size (w := w) inferInstance) rfl (ints_lit1 (t := 3) (by first | exact h6 | exact heap_new (by simp)) hr64) (by omega) ?_; intro v2 w12 hown2 hX2' hG2
            refine hK.out _ _ (by exact inferInstance) (fun hHeld => ?_)
            try simp only [Act.put, List.setIfInBounds_toArray, List.set_cons_zero, List.set_cons_succ]
            refine wpAnyH_ready (rs := [11]) (by kernel_rfl) (by simp) (AllReadyH.cons rfl (fun K hK => ?_) AllReadyH.nil)
            refine wp_app_NG (w0 := w) (base := w.heap.size) _ _ 80 rfl Try.underlying80 infoInt rfl (by exact ownsRow_later hown2 (inferInstance : Later w12 _)) inferInstance (Nat.le_refl _) (Later.size (w := w) inferInstance) rfl (by first | exact HIB2.out.later inferInstance | exact HIB3.out.later inferInstance | exact HIB4.out.later inferInstance) (by omega) ?_; intro v3 w13 hown3 hX3 hG3
            refine hK.out _ _ (by exact inferInstance) (fun hHeld => ?_)
            try simp only [Act.put, List.setIfInBounds_toArray, List.set_cons_zero, List.set_cons_succ]
            refine wpAnyH_take (i := 12) (v := ?_) (by simp only [List.getElem?_toArray, List.getElem?_cons_succ, List.getElem?_cons_zero] <;> rfl) (by kernel_rfl) (by kernel_rfl) (by kernel_rfl) (by exact fun _ _ _ h => h) (Or.inl ⟨by kernel_rfl, ?_⟩) (by assumption) ?_
            rotate_left
            · intro w' hSw; (try dsimp only at hSw); go_simp; try with_reducible rfl
            try simp only [Act.put, List.setIfInBounds_toArray, List.set_cons_zero, List.set_cons_succ]
            refine wpAnyH_done (by kernel_rfl) ?_ _
          case' r11x0_1_2_3_5_8_9_10_6 =>
            go_simp
            skip
            refine hK.out _ _ (by exact inferInstance) (fun hHeld => ?_)
            try simp only [Act.put, List.setIfInBounds_toArray, List.set_cons_zero, List.set_cons_succ]
            refine wpAnyH_ready (rs := [4]) (by kernel_rfl) (by simp) (AllReadyH.cons rfl (fun K hK => ?_) AllReadyH.nil)
            refine wp_app_NG (w0 := w) (base := w.heap.size) _ _ 80 rfl Try.underlying80 infoInt rfl (v := .slice (some ⟨_, 0, none⟩) 0 0) (own_lit0 (by first | exact heap_new (by simp) | exact (heap_old (by simp)).trans (heap_new (by simp))) (by first | exact h49 | (simp; omega) | omega)) inferInstance (Nat.le_refl _) (Later.size (w := w) inferInstance) rfl (HIF.out.later inferInstance) (by omega) ?_; intro v1 w11 hown1 hX1 hG1; (first | (have h6 : Blk w11 (wr.heap.size + 1) 3 #[.int .i64 v] := grown_blk hG1 (by exact heap_new (by simp)) (fun k hk => by simp [Value.ownBlock] at hk; omega)) | (have h6 : Blk w11 wr.heap.size 3 #[.int .i64 v] := grown_blk hG1 (by exact (heap_old (by simp)).trans (heap_new (by simp))) (fun k hk => by simp [Value.ownBlock] at hk; omega)) | skip)
            refine hK.out _ _ (by exact inferInstance) (fun hHeld => ?_)
            try simp only [Act.put, List.setIfInBounds_toArray, List.set_cons_zero, List.set_cons_succ]
            refine wpAnyH_ready (rs := [7]) (by kernel_rfl) (by simp) (AllReadyH.cons rfl (fun K hK => ?_) AllReadyH.nil)
            refine wp_app_NG (w0 := w) (base := w.heap.size) _ _ 80 rfl Try.underlying80 infoInt rfl (by exact ownsRow_later hown1 (inferInstance : Later w11 _)) inferInstance (Nat.le_refl _) (Later.size (w := w) inferInstance) rfl (ints_lit1 (t := 3) (by first | exact h6 | exact heap_new (by simp)) hr64) (by omega) ?_; intro v2 w12 hown2 hX2' hG2
            refine hK.out _ _ (by exact inferInstance) (fun hHeld => ?_)
            try simp only [Act.put, List.setIfInBounds_toArray, List.set_cons_zero, List.set_cons_succ]
            refine wpAnyH_ready (rs := [11]) (by kernel_rfl) (by simp) (AllReadyH.cons rfl (fun K hK => ?_) AllReadyH.nil)
            refine wp_app_NG (w0 := w) (base := w.heap.size) _ _ 80 rfl Try.underlying80 infoInt rfl (by exact ownsRow_later hown2 (inferInstance : Later w12 _)) inferInstance (Nat.le_refl _) (Later.size (w := w) inferInstance) rfl (by first | exact HIB2.out.later inferInstance | exact HIB3.out.later inferInstance | exact HIB4.out.later inferInstance) (by omega) ?_; intro v3 w13 hown3 hX3 hG3
            refine hK.out _ _ (by exact inferInstance) (fun hHeld => ?_)
            try simp only [Act.put, List.setIfInBounds_toArray, List.set_cons_zero, List.set_cons_succ]
            refine wpAnyH_take (i := 12) (v := ?_) (by simp only [List.getElem?_toArray, List.getElem?_cons_succ, List.getElem?_cons_zero] <;> rfl) (by kernel_rfl) (by kernel_rfl) (by kernel_rfl) (by exact fun _ _ _ h => h) (Or.inl ⟨by kernel_rfl, ?_⟩) (by assumption) ?_
            rotate_left
            · intro w' hSw; (try dsimp only at hSw); go_simp; try with_reducible rfl
            try simp only [Act.put, List.setIfInBounds_toArray, List.set_cons_zero, List.set_cons_succ]
            refine wpAnyH_done (by kernel_rfl) ?_ _
        case' r11x1_2_3_5_8_9_10_6 =>
          go_simp
          skip
          refine hK.out _ _ (by exact inferInstance) (fun hHeld => ?_)
          try simp only [Act.put, List.setIfInBounds_toArray, List.set_cons_zero, List.set_cons_succ]
          refine wpAnyH_ready (rs := [0]) (by kernel_rfl) (by simp) (AllReadyH.cons rfl (fun K hK => ?_) AllReadyH.nil)
          go_simp
          skip
          refine hK.out _ _ (by exact inferInstance) (fun hHeld => ?_)
          try simp only [Act.put, List.setIfInBounds_toArray, List.set_cons_zero, List.set_cons_succ]
          refine wpAnyH_ready (rs := [4]) (by kernel_rfl) (by simp) (AllReadyH.cons rfl (fun K hK => ?_) AllReadyH.nil)
          refine wp_app_NG (w0 := w) (base := w.heap.size) _ _ 80 rfl Try.underlying80 infoInt rfl (v := .slice (some ⟨_, 0, none⟩) 0 0) (own_lit0 (by first | exact heap_new (by simp) | exact (heap_old (by simp)).trans (heap_new (by simp))) (by first | exact h49 | (simp; omega) | omega)) inferInstance (Nat.le_refl _) (Later.size (w := w) inferInstance) rfl (HIF.out.later inferInstance) (by omega) ?_; intro v1 w11 hown1 hX1 hG1; (first | (have h6 : Blk w11 (wr.heap.size + 1) 3 #[.int .i64 v] := grown_blk hG1 (by exact heap_new (by simp)) (fun k hk => by simp [Value.ownBlock] at hk; omega)) | (have h6 : Blk w11 wr.heap.size 3 #[.int .i64 v] := grown_blk hG1 (by exact (heap_old (by simp)).trans (heap_new (by simp))) (fun k hk => by simp [Value.ownBlock] at hk; omega)) | skip)
          refine hK.out _ _ (by exact inferInstance) (fun hHeld => ?_)
          try simp only [Act.put, List.setIfInBounds_toArray, List.set_cons_zero, List.set_cons_succ]
          refine wpAnyH_ready (rs := [7]) (by kernel_rfl) (by simp) (AllReadyH.cons rfl (fun K hK => ?_) AllReadyH.nil)
          refine wp_app_NG (w0 := w) (base := w.heap.size) _ _ 80 rfl Try.underlying80 infoInt rfl (by exact ownsRow_later hown1 (inferInstance : Later w11 _)) inferInstance (Nat.le_refl _) (Later.size (w := w) inferInstance) rfl (ints_lit1 (t := 3) (by first | exact h6 | exact heap_new (by simp)) hr64) (by omega) ?_; intro v2 w12 hown2 hX2' hG2
          refine hK.out _ _ (by exact inferInstance) (fun hHeld => ?_)
          try simp only [Act.put, List.setIfInBounds_toArray, List.set_cons_zero, List.set_cons_succ]
          refine wpAnyH_ready (rs := [11]) (by kernel_rfl) (by simp) (AllReadyH.cons rfl (fun K hK => ?_) AllReadyH.nil)
          refine wp_app_NG (w0 := w) (base := w.heap.size) _ _ 80 rfl Try.underlying80 infoInt rfl (by exact ownsRow_later hown2 (inferInstance : Later w12 _)) inferInstance (Nat.le_refl _) (Later.size (w := w) inferInstance) rfl (by first | exact HIB2.out.later inferInstance | exact HIB3.out.later inferInstance | exact HIB4.out.later inferInstance) (by omega) ?_; intro v3 w13 hown3 hX3 hG3
          refine hK.out _ _ (by exact inferInstance) (fun hHeld => ?_)
          try simp only [Act.put, List.setIfInBounds_toArray, List.set_cons_zero, List.set_cons_succ]
          refine wpAnyH_take (i := 12) (v := ?_) (by simp only [List.getElem?_toArray, List.getElem?_cons_succ, List.getElem?_cons_zero] <;> rfl) (by kernel_rfl) (by kernel_rfl) (by kernel_rfl) (by exact fun _ _ _ h => h) (Or.inl ⟨by kernel_rfl, ?_⟩) (by assumption) ?_
          rotate_left
          · intro w' hSw; (try dsimp only at hSw); go_simp; try with_reducible rfl
          try simp only [Act.put, List.setIfInBounds_toArray, List.set_cons_zero, List.set_cons_succ]
          refine wpAnyH_done (by kernel_rfl) ?_ _
        all_goals
          obtain ⟨g3, c3, rfl⟩ := own_someS hown3 (by omega)
          obtain ⟨A9, c9, fp9, hov9, ho9, _, _⟩ := OSl.ints_of_own (l := putI l v) (n := (putI l v).length) (own_eqS hown3 (by have := HLN.out; rw [HIN.out]; simp; omega) (by rw [HIN.out]; simp)) (fun y hy => by
            rcases (putI_mem l v y).1 hy with rfl | h
            · exact hr64
            · exact HBD.out y h)
          have h9 : Ints w13 A9 (putI l v).length c9 (putI l v) := ho9.reads
          have HH9 := Lib.hid h9
          have HOV := Lib.hid hov9
          clear hown1 hown2 hown3 hG1 hG2 hG3 ho9 h9 hov9
          go_wp2_with fail
          go_ret
          refine ⟨g3, 0, c + 1 + (n - c), c3, by simp <;> omega, ?_, inferInstance⟩
          have h1 := HOV.out
          simp only [Value.slice.injEq] at h1
          obtain ⟨e1, e2, e3⟩ := h1
          subst e1 e3
          exact ⟨by have := HH9.out.len; omega, by have := HH9.out.cap; omega, HH9.out.max, HH9.out.el⟩
      · have HIB2 : Hid (Ints w (some ⟨g, o + m, none⟩) (n - m) (c - m) (l.drop m)) := HIB.out
        clear HIB
        go_wp2_with fail
        refine wp_region_held_drew (S := (fun w' => Later w w')) (by kernel_rfl) (by exact inferInstance) (fun hHeld => ?_)
        refine wpAnyH_take (i := 1) (v := ?_) (by simp only [List.getElem?_toArray, List.getElem?_cons_succ, List.getElem?_cons_zero] <;> rfl) (by kernel_rfl) (by kernel_rfl) (by kernel_rfl) (by exact fun _ _ _ h => h) (Or.inl ⟨by kernel_rfl, ?_⟩) (by assumption) ?_
        rotate_left
        · intro w' hSw; (try dsimp only at hSw); go_simp; try with_reducible rfl
        try simp only [Act.put, List.setIfInBounds_toArray, List.set_cons_zero, List.set_cons_succ]
        refine wpAnyH_take (i := 2) (v := ?_) (by simp only [List.getElem?_toArray, List.getElem?_cons_succ, List.getElem?_cons_zero] <;> rfl) (by kernel_rfl) (by kernel_rfl) (by kernel_rfl) (by exact fun _ _ _ h => h) (Or.inl ⟨by kernel_rfl, ?_⟩) (by assumption) ?_
        rotate_left
        · intro w' hSw; (try dsimp only at hSw); go_simp; try with_reducible rfl
        try simp only [Act.put, List.setIfInBounds_toArray, List.set_cons_zero, List.set_cons_succ]
        refine wpAnyH_take (i := 3) (v := ?_) (by simp only [List.getElem?_toArray, List.getElem?_cons_succ, List.getElem?_cons_zero] <;> rfl) (by kernel_rfl) (by kernel_rfl) (by kernel_rfl) (by exact fun _ _ _ h => h) (Or.inl ⟨by kernel_rfl, ?_⟩) (by assumption) ?_
        rotate_left
        · intro w' hSw; (try dsimp only at hSw); go_simp; try with_reducible rfl
        try simp only [Act.put, List.setIfInBounds_toArray, List.set_cons_zero, List.set_cons_succ]
        refine wpAnyH_take (i := 5) (v := ?_) (by simp only [List.getElem?_toArray, List.getElem?_cons_succ, List.getElem?_cons_zero] <;> rfl) (by kernel_rfl) (by kernel_rfl) (by kernel_rfl) (by exact fun _ _ _ h => h) (Or.inl ⟨by kernel_rfl, ?_⟩) (by assumption) ?_
        rotate_left
        · intro w' hSw; (try dsimp only at hSw); go_simp; try with_reducible rfl
        try simp only [Act.put, List.setIfInBounds_toArray, List.set_cons_zero, List.set_cons_succ]
        refine wpAnyH_take (i := 8) (v := ?_) (by simp only [List.getElem?_toArray, List.getElem?_cons_succ, List.getElem?_cons_zero] <;> rfl) (by kernel_rfl) (by kernel_rfl) (by kernel_rfl) (by exact fun _ _ _ h => h) (Or.inl ⟨by kernel_rfl, ?_⟩) (by assumption) ?_
        rotate_left
        · intro w' hSw; (try dsimp only at hSw); go_simp; try with_reducible rfl
        try simp only [Act.put, List.setIfInBounds_toArray, List.set_cons_zero, List.set_cons_succ]
        refine wpAnyH_take (i := 9) (v := ?_) (by simp only [List.getElem?_toArray, List.getElem?_cons_succ, List.getElem?_cons_zero] <;> rfl) (by kernel_rfl) (by kernel_rfl) (by kernel_rfl) (by exact fun _ _ _ h => h) (Or.inl ⟨by kernel_rfl, ?_⟩) (by assumption) ?_
        rotate_left
        · intro w' hSw; (try dsimp only at hSw); go_simp; try with_reducible rfl
        try simp only [Act.put, List.setIfInBounds_toArray, List.set_cons_zero, List.set_cons_succ]
        refine wpAnyH_take (i := 10) (v := ?_) (by simp only [List.getElem?_toArray, List.getElem?_cons_succ, List.getElem?_cons_zero] <;> rfl) (by kernel_rfl) (by kernel_rfl) (by kernel_rfl) (by exact fun _ _ _ h => h) (Or.inl ⟨by kernel_rfl, ?_⟩) (by assumption) ?_
        rotate_left
        · intro w' hSw; (try dsimp only at hSw); go_simp; try with_reducible rfl
        try simp only [Act.put, List.setIfInBounds_toArray, List.set_cons_zero, List.set_cons_succ]
        refine wpAnyH_ready (rs := [0, 6]) (by kernel_rfl) (by simp) (AllReadyH.cons rfl (fun K hK => ?r12x1_2_3_5_8_9_10_0) (AllReadyH.cons rfl (fun K hK => ?r12x1_2_3_5_8_9_10_6) AllReadyH.nil))
        case' r12x1_2_3_5_8_9_10_0 =>
          go_simp
          skip
          refine hK.out _ _ (by exact inferInstance) (fun hHeld => ?_)
          try simp only [Act.put, List.setIfInBounds_toArray, List.set_cons_zero, List.set_cons_succ]
          refine wpAnyH_ready (rs := [4, 6]) (by kernel_rfl) (by simp) (AllReadyH.cons rfl (fun K hK => ?r12x0_1_2_3_5_8_9_10_4) (AllReadyH.cons rfl (fun K hK => ?r12x0_1_2_3_5_8_9_10_6) AllReadyH.nil))
          case' r12x0_1_2_3_5_8_9_10_4 =>
            refine wp_app_NG (w0 := w) (base := w.heap.size) _ _ 80 rfl Try.underlying80 infoInt rfl (v := .slice (some ⟨_, 0, none⟩) 0 0) (own_lit0 (by first | exact heap_new (by simp) | exact (heap_old (by simp)).trans (heap_new (by simp))) (by first | exact h49 | (simp; omega) | omega)) inferInstance (Nat.le_refl _) (Later.size (w := w) inferInstance) rfl (HIF.out.later inferInstance) (by omega) ?_; intro v1 w11 hown1 hX1 hG1; (first | (have h6 : Blk w11 (wr.heap.size + 1) 3 #[.int .i64 v] := grown_blk hG1 (by exact heap_new (by simp)) (fun k hk => by simp [Value.ownBlock] at hk; omega)) | (have h6 : Blk w11 wr.heap.size 3 #[.int .i64 v] := grown_blk hG1 (by exact (heap_old (by simp)).trans (heap_new (by simp))) (fun k hk => by simp [Value.ownBlock] at hk; omega)) | skip)
            refine hK.out _ _ (by exact inferInstance) (fun hHeld => ?_)
            try simp only [Act.put, List.setIfInBounds_toArray, List.set_cons_zero, List.set_cons_succ]
            refine wpAnyH_ready (rs := [6]) (by kernel_rfl) (by simp) (AllReadyH.cons rfl (fun K hK => ?_) AllReadyH.nil)
            go_simp
            skip
            refine hK.out _ _ (by exact inferInstance) (fun hHeld => ?_)
            try simp only [Act.put, List.setIfInBounds_toArray, List.set_cons_zero, List.set_cons_succ]
            refine wpAnyH_ready (rs := [7]) (by kernel_rfl) (by simp) (AllReadyH.cons rfl (fun K hK => ?_) AllReadyH.nil)
            refine wp_app_NG (w0 := w) (base := w.heap.size) _ _ 80 rfl Try.underlying80 infoInt rfl (by exact ownsRow_later hown1 (inferInstance : Later w11 _)) inferInstance (Nat.le_refl _) (Later.size (w := w) inferInstance) rfl (ints_lit1 (t := 3) (by first | exact h6 | exact heap_new (by simp)) hr64) (by omega) ?_; intro v2 w12 hown2 hX2' hG2
            refine hK.out _ _ (by exact inferInstance) (fun hHeld => ?_)
            try simp only [Act.put, List.setIfInBounds_toArray, List.set_cons_zero, List.set_cons_succ]
            refine wpAnyH_ready (rs := [11]) (by kernel_rfl) (by simp) (AllReadyH.cons rfl (fun K hK => ?_) AllReadyH.nil)
            refine wp_app_NG (w0 := w) (base := w.heap.size) _ _ 80 rfl Try.underlying80 infoInt rfl (by exact ownsRow_later hown2 (inferInstance : Later w12 _)) inferInstance (Nat.le_refl _) (Later.size (w := w) inferInstance) rfl (by first | exact HIB2.out.later inferInstance | exact HIB3.out.later inferInstance | exact HIB4.out.later inferInstance) (by omega) ?_; intro v3 w13 hown3 hX3 hG3
            refine hK.out _ _ (by exact inferInstance) (fun hHeld => ?_)
            try simp only [Act.put, List.setIfInBounds_toArray, List.set_cons_zero, List.set_cons_succ]
            refine wpAnyH_take (i := 12) (v := ?_) (by simp only [List.getElem?_toArray, List.getElem?_cons_succ, List.getElem?_cons_zero] <;> rfl) (by kernel_rfl) (by kernel_rfl) (by kernel_rfl) (by exact fun _ _ _ h => h) (Or.inl ⟨by kernel_rfl, ?_⟩) (by assumption) ?_
            rotate_left
            · intro w' hSw; (try dsimp only at hSw); go_simp; try with_reducible rfl
            try simp only [Act.put, List.setIfInBounds_toArray, List.set_cons_zero, List.set_cons_succ]
            refine wpAnyH_done (by kernel_rfl) ?_ _
          case' r12x0_1_2_3_5_8_9_10_6 =>
            go_simp
            skip
            refine hK.out _ _ (by exact inferInstance) (fun hHeld => ?_)
            try simp only [Act.put, List.setIfInBounds_toArray, List.set_cons_zero, List.set_cons_succ]
            refine wpAnyH_ready (rs := [4]) (by kernel_rfl) (by simp) (AllReadyH.cons rfl (fun K hK => ?_) AllReadyH.nil)
            refine wp_app_NG (w0 := w) (base := w.heap.size) _ _ 80 rfl Try.underlying80 infoInt rfl (v := .slice (some ⟨_, 0, none⟩) 0 0) (own_lit0 (by first | exact heap_new (by simp) | exact (heap_old (by simp)).trans (heap_new (by simp))) (by first | exact h49 | (simp; omega) | omega)) inferInstance (Nat.le_refl _) (Later.size (w := w) inferInstance) rfl (HIF.out.later inferInstance) (by omega) ?_; intro v1 w11 hown1 hX1 hG1; (first | (have h6 : Blk w11 (wr.heap.size + 1) 3 #[.int .i64 v] := grown_blk hG1 (by exact heap_new (by simp)) (fun k hk => by simp [Value.ownBlock] at hk; omega)) | (have h6 : Blk w11 wr.heap.size 3 #[.int .i64 v] := grown_blk hG1 (by exact (heap_old (by simp)).trans (heap_new (by simp))) (fun k hk => by simp [Value.ownBlock] at hk; omega)) | skip)
            refine hK.out _ _ (by exact inferInstance) (fun hHeld => ?_)
            try simp only [Act.put, List.setIfInBounds_toArray, List.set_cons_zero, List.set_cons_succ]
            refine wpAnyH_ready (rs := [7]) (by kernel_rfl) (by simp) (AllReadyH.cons rfl (fun K hK => ?_) AllReadyH.nil)
            refine wp_app_NG (w0 := w) (base := w.heap.size) _ _ 80 rfl Try.underlying80 infoInt rfl (by exact ownsRow_later hown1 (inferInstance : Later w11 _)) inferInstance (Nat.le_refl _) (Later.size (w := w) inferInstance) rfl (ints_lit1 (t := 3) (by first | exact h6 | exact heap_new (by simp)) hr64) (by omega) ?_; intro v2 w12 hown2 hX2' hG2
            refine hK.out _ _ (by exact inferInstance) (fun hHeld => ?_)
            try simp only [Act.put, List.setIfInBounds_toArray, List.set_cons_zero, List.set_cons_succ]
            refine wpAnyH_ready (rs := [11]) (by kernel_rfl) (by simp) (AllReadyH.cons rfl (fun K hK => ?_) AllReadyH.nil)
            refine wp_app_NG (w0 := w) (base := w.heap.size) _ _ 80 rfl Try.underlying80 infoInt rfl (by exact ownsRow_later hown2 (inferInstance : Later w12 _)) inferInstance (Nat.le_refl _) (Later.size (w := w) inferInstance) rfl (by first | exact HIB2.out.later inferInstance | exact HIB3.out.later inferInstance | exact HIB4.out.later inferInstance) (by omega) ?_; intro v3 w13 hown3 hX3 hG3
            refine hK.out _ _ (by exact inferInstance) (fun hHeld => ?_)
            try simp only [Act.put, List.setIfInBounds_toArray, List.set_cons_zero, List.set_cons_succ]
            refine wpAnyH_take (i := 12) (v := ?_) (by simp only [List.getElem?_toArray, List.getElem?_cons_succ, List.getElem?_cons_zero] <;> rfl) (by kernel_rfl) (by kernel_rfl) (by kernel_rfl) (by exact fun _ _ _ h => h) (Or.inl ⟨by kernel_rfl, ?_⟩) (by assumption) ?_
            rotate_left
            · intro w' hSw; (try dsimp only at hSw); go_simp; try with_reducible rfl
            try simp only [Act.put, List.setIfInBounds_toArray, List.set_cons_zero, List.set_cons_succ]
            refine wpAnyH_done (by kernel_rfl) ?_ _
        case' r12x1_2_3_5_8_9_10_6 =>
          go_simp
          skip
          refine hK.out _ _ (by exact inferInstance) (fun hHeld => ?_)
          try simp only [Act.put, List.setIfInBounds_toArray, List.set_cons_zero, List.set_cons_succ]
          refine wpAnyH_ready (rs := [0]) (by kernel_rfl) (by simp) (AllReadyH.cons rfl (fun K hK => ?_) AllReadyH.nil)
          go_simp
          skip
          refine hK.out _ _ (by exact inferInstance) (fun hHeld => ?_)
          try simp only [Act.put, List.setIfInBounds_toArray, List.set_cons_zero, List.set_cons_succ]
          refine wpAnyH_ready (rs := [4]) (by kernel_rfl) (by simp) (AllReadyH.cons rfl (fun K hK => ?_) AllReadyH.nil)
          refine wp_app_NG (w0 := w) (base := w.heap.size) _ _ 80 rfl Try.underlying80 infoInt rfl (v := .slice (some ⟨_, 0, none⟩) 0 0) (own_lit0 (by first | exact heap_new (by simp) | exact (heap_old (by simp)).trans (heap_new (by simp))) (by first | exact h49 | (simp; omega) | omega)) inferInstance (Nat.le_refl _) (Later.size (w := w) inferInstance) rfl (HIF.out.later inferInstance) (by omega) ?_; intro v1 w11 hown1 hX1 hG1; (first | (have h6 : Blk w11 (wr.heap.size + 1) 3 #[.int .i64 v] := grown_blk hG1 (by exact heap_new (by simp)) (fun k hk => by simp [Value.ownBlock] at hk; omega)) | (have h6 : Blk w11 wr.heap.size 3 #[.int .i64 v] := grown_blk hG1 (by exact (heap_old (by simp)).trans (heap_new (by simp))) (fun k hk => by simp [Value.ownBlock] at hk; omega)) | skip)
          refine hK.out _ _ (by exact inferInstance) (fun hHeld => ?_)
          try simp only [Act.put, List.setIfInBounds_toArray, List.set_cons_zero, List.set_cons_succ]
          refine wpAnyH_ready (rs := [7]) (by kernel_rfl) (by simp) (AllReadyH.cons rfl (fun K hK => ?_) AllReadyH.nil)
          refine wp_app_NG (w0 := w) (base := w.heap.size) _ _ 80 rfl Try.underlying80 infoInt rfl (by exact ownsRow_later hown1 (inferInstance : Later w11 _)) inferInstance (Nat.le_refl _) (Later.size (w := w) inferInstance) rfl (ints_lit1 (t := 3) (by first | exact h6 | exact heap_new (by simp)) hr64) (by omega) ?_; intro v2 w12 hown2 hX2' hG2
          refine hK.out _ _ (by exact inferInstance) (fun hHeld => ?_)
          try simp only [Act.put, List.setIfInBounds_toArray, List.set_cons_zero, List.set_cons_succ]
          refine wpAnyH_ready (rs := [11]) (by kernel_rfl) (by simp) (AllReadyH.cons rfl (fun K hK => ?_) AllReadyH.nil)
          refine wp_app_NG (w0 := w) (base := w.heap.size) _ _ 80 rfl Try.underlying80 infoInt rfl (by exact ownsRow_later hown2 (inferInstance : Later w12 _)) inferInstance (Nat.le_refl _) (Later.size (w := w) inferInstance) rfl (by first | exact HIB2.out.later inferInstance | exact HIB3.out.later inferInstance | exact HIB4.out.later inferInstance) (by omega) ?_; intro v3 w13 hown3 hX3 hG3
          refine hK.out _ _ (by exact inferInstance) (fun hHeld => ?_)
          try simp only [Act.put, List.setIfInBounds_toArray, List.set_cons_zero, List.set_cons_succ]
          refine wpAnyH_take (i := 12) (v := ?_) (by simp only [List.getElem?_toArray, List.getElem?_cons_succ, List.getElem?_cons_zero] <;> rfl) (by kernel_rfl) (by kernel_rfl) (by kernel_rfl) (by exact fun _ _ _ h => h) (Or.inl ⟨by kernel_rfl, ?_⟩) (by assumption) ?_
          rotate_left
          · intro w' hSw; (try dsimp only at hSw); go_simp; try with_reducible rfl
          try simp only [Act.put, List.setIfInBounds_toArray, List.set_cons_zero, List.set_cons_succ]
          refine wpAnyH_done (by kernel_rfl) ?_ _
        all_goals
          obtain ⟨g3, c3, rfl⟩ := own_someS hown3 (by omega)
          obtain ⟨A9, c9, fp9, hov9, ho9, _, _⟩ := OSl.ints_of_own (l := putI l v) (n := (putI l v).length) (own_eqS hown3 (by have := HLN.out; rw [HIN.out]; simp; omega) (by rw [HIN.out]; simp)) (fun y hy => by
            rcases (putI_mem l v y).1 hy with rfl | h
            · exact hr64
            · exact HBD.out y h)
          have h9 : Ints w13 A9 (putI l v).length c9 (putI l v) := ho9.reads
          have HH9 := Lib.hid h9
          have HOV := Lib.hid hov9
          clear hown1 hown2 hown3 hG1 hG2 hG3 ho9 h9 hov9
          go_wp2_with fail
          go_ret
          refine ⟨g3, 0, m + 1 + (n - m), c3, by simp <;> omega, ?_, inferInstance⟩
          have h1 := HOV.out
          simp only [Value.slice.injEq] at h1
          obtain ⟨e1, e2, e3⟩ := h1
          subst e1 e3
          exact ⟨by have := HH9.out.len; omega, by have := HH9.out.cap; omega, HH9.out.max, HH9.out.el⟩
set_option maxHeartbeats 2000000 in
theorem spec_l2Back {w0 w : World} {A : Option Addr} {n c : Nat} {l : List Int} (h : Ints w0 A n c l) (hl : Later w0 w) (hn : n ≤ 100) :
    Calls Try.prog 166 #[.slice A n c] w (RetO 1 oInt l.reverse w) := by
  have hI := h.later hl
  have HI := Lib.hid hI
  have HLN := Lib.hid hI.len
  have hwn : IntKind.i64.wrap ((n : Int) - 1) = (n : Int) - 1 := by rw [IntKind.wrap_i64]; omega
  clear h hI
  go_enter Try.func166, Try.ntmps166
  go_wp2_with fail
  clear hwn
  go_loopw [3, 4] (fun ov i wr => ∃ m : Nat, m ≤ n ∧ i = .int .i64 ((m : Int) - 1) ∧ Hid (wr.ownsRow w.heap.size 3 1 ov (n - m) ((l.drop m).reverse.map (Value.int .i64))) ∧ Later w wr) (fun _ i _ => (intOf i + 1).toNat)
  case atStart => exact ⟨n, by omega, by first | rfl | simp, Lib.hid (by rw [List.drop_eq_nil_of_le (by have := HLN.out; omega), Nat.sub_self]; simpa using World.ownsRow_lit (base := w.heap.size) (e := 3) (size := 1) w #[] 0 (by simp) (by simp [maxLen]) rfl), inferInstance⟩
  case round =>
    obtain ⟨m, hm, rfl, hown, hX⟩ := hrel
    have hsz := hX.size
    by_cases hm0 : m = 0
    · subst hm0
      have hc1 : ¬ (0 : Int) ≤ ((0 : Nat) : Int) - 1 := by omega
      go_wp2
      go_ret
      have h1 := hown.out
      rw [List.drop_zero, Nat.sub_zero] at h1
      obtain ⟨A9, c9, fp9, rfl, ho9, hnd9, hlo9⟩ := OSl.ints_of_own (l := l.reverse) h1 (fun y hy => by
        obtain ⟨j, hj⟩ := List.getElem?_of_mem (List.mem_reverse.1 hy)
        obtain ⟨_, _, es, _, _, _, hr⟩ := HI.out.el j y hj
        exact hr.2)
      exact ⟨A9, _, c9, fp9, rfl, ho9, hnd9, hlo9, inferInstance⟩
    · obtain ⟨j, rfl⟩ : ∃ j, m = j + 1 := ⟨m - 1, by omega⟩
      have hj : j < n := by omega
      obtain ⟨b1, o1, y, rfl, hy, hcy, _⟩ := Ints.at_ HI.out hj
      have hwk : ((j + 1 : Nat) : Int) - 1 = (j : Int) := by omega
      have HD : Hid ((l.drop j).reverse.map (Value.int .i64) = (l.drop (j + 1)).reverse.map (Value.int .i64) ++ [.int .i64 y]) := by show _ = _; rw [drop_at hy.out]; simp
      have hjt : (j : Int) < n := by omega
      have hj0 : (0 : Int) ≤ j := by omega
      have hwj : IntKind.i64.wrap ((j : Int) - 1) = (j : Int) - 1 := by rw [IntKind.wrap_i64]; omega
      rw [hwk]
      clear hy hm0 hwk
      go_wp2_with (at_builtin; refine wpList_app_B rfl _ _ 80 rfl Try.underlying80 infoInt rfl (by decide) (by decide) rfl (by exact hown.out) (inferInstance : Later w wr) (Nat.le_refl _) hsz rfl rfl (one_cell _ _) (by omega) ?_; intro v' w4 hown' hX')
      go_roundw
      case rel => exact ⟨j, by omega, by go_num, by show World.ownsRow _ _ _ _ _ _ _; rw [HD.out, show n - j = n - (j + 1) + 1 by omega]; exact hown', inferInstance⟩
      case measure => simp [intOf] <;> omega
theorem putGo_at {t : Timetable} {from_ : Int} {k : Nat} {x : Trip} {acc : List Int} (h : t.Trips[k]? = some x) : putGo t from_ (t.Trips.drop k) acc = putGo t from_ (t.Trips.drop (k + 1)) (if 0 ≤ placeT t x from_ then putI acc (timeAt t x (placeT t x from_).toNat) else acc) := by
  rw [drop_at h]; rfl
theorem putI_len (l : List Int) (v : Int) : (putI l v).length ≤ l.length + 1 := by
  induction l with
  | nil => simp [putI]
  | cons x l ih =>
    simp only [putI]
    split
    · simp; omega
    · split <;> simp
set_option maxHeartbeats 4000000 in
theorem spec_l8Departures {w0 w : World} {sA0 : Option Addr} {sn0 sc0 : Nat} {sA1 : Option Addr} {sn1 sc1 : Nat} {sA2 : Option Addr} {sn2 sc2 : Nat} {t : Timetable} (h : TimetableAt w0 sA0 sn0 sc0 sA1 sn1 sc1 sA2 sn2 sc2 t) (hl : Later w0 w) (tf : TimeFacts t) (from_ : Int) :
    Calls Try.prog 120 #[.agg #[.slice sA0 sn0 sc0, .slice sA1 sn1 sc1, .slice sA2 sn2 sc2], .int .i64 from_] w (RetO 1 oInt (depsS t from_).reverse w) := by
  have hT := h.l_Trips.later hl
  have hn2 := hT.le
  have Hl := Lib.hid hT.len
  have NF := Lib.hid tf.net
  have TF := Lib.hid tf
  have h12 : sn2 ≤ 12 := by have := tf.len; rw [hT.len]; omega
  clear tf
  have HB0 : ∀ W [Later (w.alloc (.cells #[.slice sA0 sn0 sc0, .slice sA1 sn1 sc1, .slice sA2 sn2 sc2] 39)) W] (j : Nat), W.cell? ⟨w.heap.size, j, none⟩ = #[.slice sA0 sn0 sc0, .slice sA1 sn1 sc1, .slice sA2 sn2 sc2][j]? := Later.boxes (t := 39) (fr := (0, 0)) (heap_new (by simp; try omega)); obtain ⟨wb, hwb⟩ : ∃ wb : World, wb = (w.alloc (.cells #[.slice sA0 sn0 sc0, .slice sA1 sn1 sc1, .slice sA2 sn2 sc2] 39)) := ⟨_, rfl⟩; haveI hbW : Later wb (w.alloc (.cells #[.slice sA0 sn0 sc0, .slice sA1 sn1 sc1, .slice sA2 sn2 sc2] 39)) := (by rw [hwb]; exact Later.rfl_); haveI hww : Later w wb := (by rw [hwb]; infer_instance); rw [← hwb] at HB0; have hbE := Lib.hid (congrArg (fun x : World => x.heap.size) hwb); clear hwb
  have hwb0 := hl.trans hww
  have H := Lib.hid h
  clear h
  replace hT := hT.later hww
  go_enter Try.func120, Try.ntmps120
  go_wp2_with fail
  go_loopw [5, 6] (fun ov i wr => ∃ (k g o c : Nat) (acc : List Int), k ≤ sn2 ∧ i = .int .i64 k ∧ acc.length ≤ k ∧ ov = .slice (some ⟨g, o, none⟩) acc.length c ∧ Hid (putGo t from_ (t.Trips.drop k) acc = depsS t from_) ∧ Hid (∀ y, y ∈ acc → I64 y) ∧ Hid (Ints wr (some ⟨g, o, none⟩) acc.length c acc) ∧ Later wb wr) (fun _ i _ => sn2 - (intOf i).toNat)
  case atStart => exact ⟨0, _, 0, 0, [], by omega, rfl, by simp, rfl, rfl, fun y hy => by simp at hy, ⟨rfl, Nat.le_refl _, by omega, fun j x hx => by simp at hx⟩, inferInstance⟩
  case round =>
    obtain ⟨k, g, o, c, acc, hk, rfl, hal, rfl, HF, HBD, HI, hX⟩ := hrel
    by_cases hlt : k < sn2
    · obtain ⟨b, o', x, hA, hx, _, _, _, _⟩ := Trips.at_ hT hlt
      have HF1 := HF.out
      rw [putGo_at hx.out] at HF1
      have TI := Lib.hid (TF.out.trip k x hx.out).in_
      have HXI : Hid (tripI t (k : Int) = x) := tripI_of hx.out
      have TIK : Hid (TripIn t (tripI t (k : Int))) := by show TripIn t _; rw [HXI.out]; exact TI.out
      have HK : Hid (0 ≤ (k : Int) ∧ (k : Int) < t.Trips.length) := ⟨by omega, by have := Hl.out; omega⟩
      have lf := Lib.hid (lineAtT_facts NF.out TI.out.line0 TI.out.line1)
      have HLI : Hid (lineI t (k : Int) = lineAtT t x.Line) := by show _ = _; unfold lineI; rw [HXI.out]
      obtain ⟨p, hp⟩ : ∃ p, idx (intIs from_) (lineI t (k : Int)).Stops = p := ⟨_, rfl⟩
      have HP0 := Lib.hid hp
      have hpp : placeT t x from_ = p := by unfold placeT; rw [← HLI.out]; exact hp
      rw [hpp] at HF1
      have hpb := idx_bd (intIs from_) (lineI t (k : Int)).Stops
      rw [hp] at hpb
      have hx9 := stopsIn TF.out x (List.mem_of_getElem? hx.out)
      have HX9 := Lib.hid hx9
      have HPP := Lib.hid hpp
      clear HF hx hp hpp hx9
      subst hA
      by_cases c0 : 0 ≤ p
      · rw [if_pos c0] at HF1
        obtain ⟨m, rfl⟩ := Int.eq_ofNat_of_zero_le c0
        obtain ⟨d, hd⟩ : ∃ d, timeAt t x m = d := ⟨_, rfl⟩
        have HTI : Hid (timeI t (k : Int) (m : Int) = d) := by show _ = _; rw [← hd]; unfold timeI; rw [HXI.out]; rfl
        rw [show (((m : Nat) : Int)).toNat = m from rfl, hd] at HF1
        have HF2 := Lib.hid HF1
        have hd64 : I64 d := by
          have := HX9.out _ (List.mem_of_getElem? (place_at (t := t) (x := x) (s := from_) (by rw [HPP.out]; omega)))
          simp only at this
          rw [HPP.out] at this
          simp only [Int.toNat_natCast] at this
          rw [hd] at this
          unfold I64; omega
        have HBD2 : Hid (∀ y, y ∈ putI acc d → I64 y) := fun y hy => by
          rcases (putI_mem acc d y).1 hy with rfl | h1
          · exact hd64
          · exact HBD.out y h1
        have HMR : Hid (0 ≤ (m : Int) ∧ (m : Int) ≤ (lineI t (k : Int)).Runs.length) := ⟨by omega, by have := lf.out.runs; rw [HLI.out] at *; omega⟩
        have HPL := Lib.hid (putI_len acc d)
        clear HF1 hd hpb
        go_wp2_with first
          | (go_at_call 127; refine (spec_l5Line H.out (hwb0.trans inferInstance) _ HK.out.1 HK.out.2 TIK.out).mono ?_; rintro e w2 ⟨A0, n0, c0', A1, n1, c1, rfl, hy, L2⟩; have X2 := Later.trans (w := wb) inferInstance L2; have Y2 := Later.trans (w := wr) inferInstance L2; have HY := Lib.hid hy; clear hy)
          | (go_at_call 164; refine (spec_l2Place (r := lineI t (k : Int)) HY.out (hwb0.trans inferInstance) from_).mono ?_; rw [HP0.out]; rintro e w3 ⟨rfl, L3⟩; have X3 := Later.trans (w := wb) inferInstance L3; have Y3 := Later.trans (w := wr) inferInstance L3)
          | (go_at_call 65; refine (spec_l5At H.out (hwb0.trans inferInstance) NF.out _ HK.out.1 HK.out.2 TIK.out _ HMR.out.1 HMR.out.2).mono ?_; rw [HTI.out]; rintro e w5 ⟨rfl, L5⟩; have X5 := Later.trans (w := wb) inferInstance L5; have Y5 := Later.trans (w := wr) inferInstance L5)
          | (go_at_call 165; refine (spec_l1Put HI.out inferInstance (by omega) HBD.out d hd64).mono ?_; rintro e w6 ⟨g6, o6, n6, c6, rfl, hI6, L6⟩; have X6 := Later.trans (w := wb) inferInstance L6; have HI6 := Lib.hid hI6; obtain rfl : n6 = (putI acc d).length := hI6.len; clear hI6)
        go_roundw
        case rel => exact ⟨k + 1, g6, o6, c6, putI acc d, by omega, by go_num, by have := HPL.out; omega, rfl, HF2, HBD2, HI6, inferInstance⟩
        case measure => simp [intOf]; omega
      · rw [if_neg c0] at HF1
        have HF2 := Lib.hid HF1
        clear HF1
        go_wp2_with first
          | (go_at_call 127; refine (spec_l5Line H.out (hwb0.trans inferInstance) _ HK.out.1 HK.out.2 TIK.out).mono ?_; rintro e w2 ⟨A0, n0, c0', A1, n1, c1, rfl, hy, L2⟩; have X2 := Later.trans (w := wb) inferInstance L2; have Y2 := Later.trans (w := wr) inferInstance L2; have HY := Lib.hid hy; clear hy)
          | (go_at_call 164; refine (spec_l2Place (r := lineI t (k : Int)) HY.out (hwb0.trans inferInstance) from_).mono ?_; rw [HP0.out]; rintro e w3 ⟨rfl, L3⟩; have X3 := Later.trans (w := wb) inferInstance L3; have Y3 := Later.trans (w := wr) inferInstance L3)
        go_roundw
        case rel => exact ⟨k + 1, g, o, c, acc, by omega, by go_num, by omega, rfl, HF2, HBD, HI.out.later inferInstance, inferInstance⟩
        case measure => simp [intOf]; omega
    · have HE : Hid (acc = depsS t from_) := by
        have h3 := HF.out
        rw [List.drop_eq_nil_of_le (by have := Hl.out; omega)] at h3
        exact h3
      have hac : acc.length ≤ 12 := by omega
      clear HF
      go_wp2_with (go_at_call 166; refine (spec_l2Back HI.out inferInstance (by omega)).mono ?_; rintro e w7 ⟨A7, n7, c7, fp7, rfl, ho7, hnd7, hlo7, L7⟩; have X7 := Later.trans (w := wb) inferInstance L7)
      go_ret
      exact ⟨A7, n7, c7, fp7, rfl, by rw [← HE.out]; exact ho7, hnd7, fun g hg => by have := hlo7 g hg; have := Later.size (w := w) (hww.trans hX); omega, hww.trans inferInstance⟩
end Go.Proofs.Yteijofkkggifhaa
