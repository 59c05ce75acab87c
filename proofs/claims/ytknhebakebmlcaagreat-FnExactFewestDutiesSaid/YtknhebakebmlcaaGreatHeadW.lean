/-
 The head of the translated program: how it was cut; read word by word. (Read as a whole the head of a great seat takes more memory than a Lean process may have.)
-/
import Derived.Test.YtknhebakebmlcaaGreatRows
import Derived.KernelRfl
import Derived.JoinedOf
namespace Go.Proofs.YtknhebakebmlcaaGreat
open Go
set_option linter.unusedVariables false
set_option maxRecDepth 100000
set_option linter.unusedSimpArgs false
theorem ws_word (r : List Char) (w : List Char) (hw : w.all (fun c => !(c == Char.ofNat 32)) = true) : wordsSigns (w ++ Char.ofNat 32 :: r) = w :: wordsSigns r := by
 induction w with
 | nil => rfl
 | cons c w ih =>
  simp only [List.all_cons, Bool.and_eq_true, Bool.not_eq_true', beq_eq_false_iff_ne, ne_eq] at hw
  have h1 := ih (by simpa using hw.2)
  rw [List.cons_append]
  conv => lhs; unfold wordsSigns
  split
  ·rename_i h; cases h
  ·rename_i r' h
   simp only [List.cons.injEq] at h
   exact absurd h.1 hw.1
  ·rename_i c' r' hne h
   simp only [List.cons.injEq] at h
   obtain ⟨rfl, rfl⟩ := h
   rw [h1]
def headA : List Char := ([104, 97, 114, 110, 101, 115, 115] : List Nat).map Char.ofNat
def headB : List Char := ([52, 49, 55, 54, 55, 53, 50, 50, 100, 57, 57, 55, 99, 100, 55, 102, 54, 97, 102, 55, 50, 56, 50, 99, 52, 99, 56, 50, 48, 102, 50, 51, 48, 57, 102, 52, 53, 102, 102, 102, 51, 49, 102, 53, 98, 49, 99, 56, 53, 55, 100, 48, 54, 52, 99, 52, 52, 52, 98, 57, 48, 57, 102, 55] : List Nat).map Char.ofNat
def headC : List Char := ([99, 117, 116] : List Nat).map Char.ofNat
def headR : List Char := ([97, 116, 32, 108, 111, 111, 112, 46, 101, 120, 97, 109, 112, 108, 101, 47, 103, 48, 48, 57, 48, 48, 47, 108, 97, 119, 115, 46, 70, 110, 69, 120, 97, 99, 116, 65, 108, 119, 97, 121, 115, 84, 111, 103, 101, 116, 104, 101, 114, 32, 108, 111, 111, 112, 46, 101, 120, 97, 109, 112, 108, 101, 47, 103, 48, 48, 57, 48, 48, 47, 108, 97, 119, 115, 46, 70, 110, 69, 120, 97, 99, 116, 70, 101, 119, 101, 115, 116, 68, 117, 116, 105, 101, 115] : List Nat).map Char.ofNat
theorem init_eq : Tryz.prog.initOrder = String.ofList (headA ++ Char.ofNat 32 :: (headB ++ Char.ofNat 32 :: (headC ++ Char.ofNat 32 :: headR))) := by kernel_rfl
theorem init_words : wordsSigns Tryz.prog.initOrder.toList = headA :: headB :: headC :: wordsSigns headR := by
 rw [init_eq, String.toList_ofList, ws_word _ _ (by kernel_rfl), ws_word _ _ (by kernel_rfl), ws_word _ _ (by kernel_rfl)]
theorem behind_eq (x : List (List Char)) : behindMainWord (headA :: headB :: x) = x := by
 show (if ((headA == "harness".toList || headA == "ownmain".toList) && isSumSigns headB) = true then x else headA :: headB :: x) = x
 rw [if_pos (by kernel_rfl)]
theorem gc_no : (headC == "gc".toList) = false := by kernel_rfl
theorem spec_no : (headC == "spec".toList) = false := by kernel_rfl
theorem carried_no : (headC == "carried".toList) = false := by kernel_rfl
theorem cut_yes : (headC == "cut".toList) = true := by kernel_rfl
theorem make_of (P : Program) (x : List (List Char)) (h : wordsSigns P.initOrder.toList = headA :: headB :: headC :: x) : P.make = some .cut := by
 unfold Program.make
 rw [h, behind_eq]
 simp only [gc_no, spec_no, cut_yes, Bool.or_false, Bool.true_or, Bool.false_eq_true, if_false, if_true]
theorem make_eq : Tryz.prog.make = some .cut := make_of _ _ init_words
theorem strip_eq (x : List (List Char)) : stripLifts liftWords (headC :: x) = ([], headC :: x) := by kernel_rfl
theorem cut_head (x : List (List Char)) : ((headC :: x).head? == some "cut".toList) = true := by kernel_rfl
theorem carried_head (x : List (List Char)) : ((headC :: x).head? == some "carried".toList) = false := by kernel_rfl
theorem lifts_of (P : Program) (x : List (List Char)) (h : wordsSigns P.initOrder.toList = headA :: headB :: headC :: x) : P.liftsFinal = false := by
 unfold Program.liftsFinal Program.headLifts
 rw [h, behind_eq, strip_eq]
 simp only [cut_head, carried_head, Bool.false_and, Bool.false_or, if_true]
 rfl
theorem lifts_eq : Tryz.prog.liftsFinal = false := lifts_of _ _ init_words
theorem enter_of (P : Program) (x : List (List Char)) (h : wordsSigns P.initOrder.toList = headA :: headB :: headC :: x) (h1 : P.laysLater = false) (h2 : P.bearsReflect = false) (h3 : P.doorFits [] = true) : P.mayEnter = true := by
 unfold Program.mayEnter
 rw [h, behind_eq]
 simp only [strip_eq, h1, h2, h3, cut_head, Bool.not_false, Bool.or_true, Bool.true_and, Bool.and_true, List.contains_nil]
theorem later_eq : Tryz.prog.laysLater = false := by kernel_rfl
theorem refl_eq : Tryz.prog.bearsReflect = false := by kernel_rfl
theorem door_eq : Tryz.prog.doorFits [] = true := by kernel_rfl
theorem enter_eq : Tryz.prog.mayEnter = true := enter_of _ _ init_words later_eq refl_eq door_eq
end Go.Proofs.YtknhebakebmlcaaGreat
