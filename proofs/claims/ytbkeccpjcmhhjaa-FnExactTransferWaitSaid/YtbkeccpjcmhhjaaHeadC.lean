/-
  Headways: the meeting times.
-/
import Derived.Test.YtbkeccpjcmhhjaaHeadB
import Derived.Test.YtbkeccpjcmhhjaaTimeE
import Derived.Test.YtbkeccpjcmhhjaaNest
namespace Go.Proofs.Ytbkeccpjcmhhjaa
open Go Go.RowKit
set_option linter.unusedVariables false
set_option maxRecDepth 100000
def meetGo (n : Network) (period : Int) (pa pb : Pattern) : List Int → Nat → List Int
  | [], _ => []
  | s :: r, k => if restOf n period pa s = restOf n period pb s then (k : Int) :: meetGo n period pa pb r (k + 1) else meetGo n period pa pb r (k + 1)
def patI (l : List Pattern) (i : Int) : Pattern := l.getD i.toNat default
theorem patI_of {l : List Pattern} {m : Nat} {x : Pattern} (h : l[m]? = some x) : patI l m = x := by simp [patI, List.getD, h]
def meetOk (n : Network) (period : Int) (l : List Pattern) (a b : Int) : Bool := okPatterns n period l && inB a 0 ((l.length : Int) - 1) && inB b 0 ((l.length : Int) - 1)
def meetRes (n : Network) (period : Int) (l : List Pattern) (a b : Int) : List Int × Bool :=
  if meetOk n period l a b then (meetGo n period (patI l a) (patI l b) (lineN n (patI l a).Line).Stops 0, true) else ([], false)
theorem meetGo_len (n : Network) (period : Int) (pa pb : Pattern) (l : List Int) (k : Nat) : (meetGo n period pa pb l k).length ≤ l.length := by
  induction l generalizing k with
  | nil => simp [meetGo]
  | cons s l ih =>
    simp only [meetGo, List.length_cons]
    split
    · have := ih (k + 1); simp; omega
    · have := ih (k + 1); omega
theorem meetGo_bd (n : Network) (period : Int) (pa pb : Pattern) (l : List Int) (k : Nat) : ∀ y, y ∈ meetGo n period pa pb l k → (k : Int) ≤ y ∧ y < (k : Int) + l.length := by
  induction l generalizing k with
  | nil => intro y hy; simp [meetGo] at hy
  | cons s l ih =>
    intro y hy
    simp only [meetGo] at hy
    simp only [List.length_cons]
    split at hy
    · rcases List.mem_cons.1 hy with h | h
      · omega
      · have := ih _ y h; omega
    · have := ih _ y hy; omega
theorem meetRes_len (n : Network) (period : Int) (l : List Pattern) (a b : Int) : (meetRes n period l a b).1.length ≤ 6 := by
  unfold meetRes
  split
  · rename_i h
    simp only [meetOk, Bool.and_eq_true, inB_t] at h
    have pf := patFacts h.1.1
    obtain ⟨m, rfl⟩ := Int.eq_ofNat_of_zero_le h.1.2.1
    have hm : m < l.length := by omega
    have h1 := patI_of (List.getElem?_eq_getElem hm)
    have h2 := pf.pat m _ (List.getElem?_eq_getElem hm)
    rw [h1]
    have lf := lineN_facts (netFacts pf.net) h2.1 h2.2.1
    have := meetGo_len n period l[m] (patI l b) (lineN n l[m].Line).Stops 0
    have := lf.stops
    simp only; omega
  · simp

end Go.Proofs.Ytbkeccpjcmhhjaa
