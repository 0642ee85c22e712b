/- The head line of the translation, sign by sign, and what the row's closed facts ask of it. No condition. -/
import Derived.Test.YtpdmdfkcaabnaaaGreatChecked
import Derived.KernelRfl
import Derived.ProofKit
namespace Go.Proofs.YtpdmdfkcaabnaaaGreat
set_option linter.unusedVariables false
def headSigns : List Nat := [104, 97, 114, 110, 101, 115, 115, 32, 48, 99, 54, 57, 99, 55, 56, 49, 55, 53, 50, 55, 50, 56, 52, 99, 99, 52, 53, 51, 102, 101, 48, 57, 48, 50, 101, 51, 54, 52, 50, 51, 51, 56, 100, 48, 97, 51, 48, 54, 100, 54, 48, 49, 49, 97, 99, 57, 49, 54, 54, 49, 57, 98, 53, 54, 51, 53, 57, 48, 54, 51, 50, 98, 32, 99, 117, 116, 32, 97, 116, 32, 108, 111, 111, 112, 46, 101, 120, 97, 109, 112, 108, 101, 47, 103, 48, 49, 57, 56, 57, 47, 108, 97, 119, 115, 46, 70, 110, 69, 120, 97, 99, 116, 67, 104, 101, 97, 112, 101, 115, 116, 79, 114, 100, 101, 114]
theorem head_is : Tryz.prog.initOrder = String.ofList (headSigns.map Char.ofNat) := by kernel_rfl
theorem head_list : Tryz.prog.initOrder.toList = headSigns.map Char.ofNat := by rw [head_is, String.toList_ofList]
theorem head_first : (behindMainWord (wordsSigns (headSigns.map Char.ofNat))).head? = some "cut".toList := by kernel_rfl
theorem head_cons {β : Type} {l : List β} {c : β} (h : l.head? = some c) : ∃ T, l = c :: T := by
  cases l with
  | nil => cases h
  | cons a t => cases h; exact ⟨t, rfl⟩
def makeOf (P : Program) (l : List (List Char)) : Option Make := match l with
  | c :: rest => if c == "gc".toList || c == "spec".toList then some Make.whole else if c == "cut".toList || (c == "finals".toList && rest.head? == some "cut".toList) then some .cut else if c == "carried".toList then some .carried else if P.headLifts.isEmpty then none else some (.lifted P.headLifts)
  | [] => none
theorem make_eq (P : Program) : P.make = makeOf P (behindMainWord (wordsSigns P.initOrder.toList)) := rfl
theorem make_cut (P : Program) (T : List (List Char)) : makeOf P ("cut".toList :: T) = some .cut := rfl
theorem make_is : Tryz.prog.make = some .cut := by
  obtain ⟨T, hT⟩ := head_cons head_first
  rw [make_eq, head_list, hT]
  exact make_cut _ T
theorem lifts_is : Tryz.prog.liftsFinal = false := by
  unfold Program.liftsFinal Program.headLifts
  rw [head_list]
  kernel_rfl
def enterOf (P : Program) (l : List (List Char)) : Bool := match l with
  | c :: rest =>
    ((c == "gc".toList || c == "spec".toList) && (rest.isEmpty || rest.head? == some "stop".toList)) ||
    (c == "carried".toList && rest.take 2 == ["gc".toList, "cut".toList] && !P.laysLater && !P.bearsReflect) ||
    ((stripLifts liftWords (c :: rest)).2.head? == some "cut".toList &&
      ((stripLifts liftWords (c :: rest)).1.contains "finals" || !P.laysLater) && ((stripLifts liftWords (c :: rest)).1.contains "reflectrows" || !P.bearsReflect) &&
      ((stripLifts liftWords (c :: rest)).1.contains "reflectrows" || !(stripLifts liftWords (c :: rest)).1.contains "leanrows") &&
      P.doorFits (stripLifts liftWords (c :: rest)).1)
  | [] => false
theorem enter_eq (P : Program) : P.mayEnter = enterOf P (behindMainWord (wordsSigns P.initOrder.toList)) := rfl
theorem enter_cut (P : Program) (T : List (List Char)) : enterOf P ("cut".toList :: T) = ((!P.laysLater) && (!P.bearsReflect) && P.doorFits []) := by
  have h : stripLifts liftWords ("cut".toList :: T) = ([], "cut".toList :: T) := rfl
  unfold enterOf
  simp only [h]
  have h1 : ((("cut".toList == "gc".toList || "cut".toList == "spec".toList) && (T.isEmpty || T.head? == some "stop".toList)) || ("cut".toList == "carried".toList && T.take 2 == ["gc".toList, "cut".toList] && !P.laysLater && !P.bearsReflect)) = false := rfl
  rw [h1]
  have h2 : (("cut".toList :: T).head? == some "cut".toList) = true := rfl
  rw [h2]
  simp
theorem later_is : Tryz.prog.laysLater = false := by kernel_rfl
theorem reflect_is : Tryz.prog.bearsReflect = false := by kernel_rfl
theorem door_is : Tryz.prog.doorFits [] = true := by kernel_rfl
theorem enter_is : Tryz.prog.mayEnter = true := by
  obtain ⟨T, hT⟩ := head_cons head_first
  rw [enter_eq, head_list, hT, enter_cut, later_is, reflect_is, door_is]
  rfl
theorem band {a b : Bool} (h : a = true) (k : b = true) : (a && b) = true := by rw [h, k]; rfl
end Go.Proofs.YtpdmdfkcaabnaaaGreat
