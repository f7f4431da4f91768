/- The dump's head, as words: proved without reading the long text sign by sign; and the facts of a claim that hang on it. -/
import Derived.Test.YtkaekjhcphgldaaGreatLaws
import Derived.Test.YtkaekjhcphgldaaGreatRows
namespace Go.Proofs.YtkaekjhcphgldaaGreat
open Go

theorem and_yes {a b : Bool} (ha : a = true) (hb : b = true) : (a && b) = true := by rw [ha, hb]; rfl

set_option maxRecDepth 100000 in
theorem headIs : Tryz.pinned.checked.prog.initOrder = String.ofList (([104, 97, 114, 110, 101, 115, 115, 32, 98, 102, 54, 101, 54, 55, 52, 51, 97, 51, 52, 98, 98, 97, 50, 55, 55, 101, 51, 50, 55, 97, 56, 52, 50, 102, 48, 56, 53, 51, 100, 51, 55, 100, 101, 100, 49, 48, 53, 51, 99, 50, 97, 55, 98, 55, 53, 53, 57, 57, 98, 98, 101, 51, 57, 50, 56, 53, 56, 100, 57, 98, 57, 57, 32, 99, 117, 116, 32, 97, 116, 32, 108, 111, 111, 112, 46, 101, 120, 97, 109, 112, 108, 101, 47, 103, 48, 49, 48, 48, 51, 47, 108, 97, 119, 115, 46, 70, 110, 69, 120, 97, 99, 116, 77, 105, 100, 100, 108, 101, 77, 97, 112, 32, 108, 111, 111, 112, 46, 101, 120, 97, 109, 112, 108, 101, 47, 103, 48, 49, 48, 48, 51, 47, 108, 97, 119, 115, 46, 70, 110, 69, 120, 97, 99, 116, 67, 111, 109, 112, 111, 115, 101, 77, 97, 112, 115, 32, 108, 111, 111, 112, 46, 101, 120, 97, 109, 112, 108, 101, 47, 103, 48, 49, 48, 48, 51, 47, 108, 97, 119, 115, 46, 70, 110, 69, 120, 97, 99, 116, 68, 111, 67, 111, 109, 109, 117, 116, 101, 32, 108, 111, 111, 112, 46, 101, 120, 97, 109, 112, 108, 101, 47, 103, 48, 49, 48, 48, 51, 47, 108, 97, 119, 115, 46, 70, 110, 69, 120, 97, 99, 116, 67, 108, 97, 109, 112, 77, 97, 112, 32, 108, 111, 111, 112, 46, 101, 120, 97, 109, 112, 108, 101, 47, 103, 48, 49, 48, 48, 51, 47, 108, 97, 119, 115, 46, 70, 110, 69, 120, 97, 99, 116, 80, 111, 119, 101, 114, 79, 102, 77, 97, 112] : List Nat).map Char.ofNat) := by kernel_rfl
def headWords : List (List Char) := ([[104, 97, 114, 110, 101, 115, 115], [98, 102, 54, 101, 54, 55, 52, 51, 97, 51, 52, 98, 98, 97, 50, 55, 55, 101, 51, 50, 55, 97, 56, 52, 50, 102, 48, 56, 53, 51, 100, 51, 55, 100, 101, 100, 49, 48, 53, 51, 99, 50, 97, 55, 98, 55, 53, 53, 57, 57, 98, 98, 101, 51, 57, 50, 56, 53, 56, 100, 57, 98, 57, 57], [99, 117, 116], [97, 116], [108, 111, 111, 112, 46, 101, 120, 97, 109, 112, 108, 101, 47, 103, 48, 49, 48, 48, 51, 47, 108, 97, 119, 115, 46, 70, 110, 69, 120, 97, 99, 116, 77, 105, 100, 100, 108, 101, 77, 97, 112], [108, 111, 111, 112, 46, 101, 120, 97, 109, 112, 108, 101, 47, 103, 48, 49, 48, 48, 51, 47, 108, 97, 119, 115, 46, 70, 110, 69, 120, 97, 99, 116, 67, 111, 109, 112, 111, 115, 101, 77, 97, 112, 115], [108, 111, 111, 112, 46, 101, 120, 97, 109, 112, 108, 101, 47, 103, 48, 49, 48, 48, 51, 47, 108, 97, 119, 115, 46, 70, 110, 69, 120, 97, 99, 116, 68, 111, 67, 111, 109, 109, 117, 116, 101], [108, 111, 111, 112, 46, 101, 120, 97, 109, 112, 108, 101, 47, 103, 48, 49, 48, 48, 51, 47, 108, 97, 119, 115, 46, 70, 110, 69, 120, 97, 99, 116, 67, 108, 97, 109, 112, 77, 97, 112], [108, 111, 111, 112, 46, 101, 120, 97, 109, 112, 108, 101, 47, 103, 48, 49, 48, 48, 51, 47, 108, 97, 119, 115, 46, 70, 110, 69, 120, 97, 99, 116, 80, 111, 119, 101, 114, 79, 102, 77, 97, 112]] : List (List Nat)).map fun w => w.map Char.ofNat
def headRest : List (List Char) := ([[97, 116], [108, 111, 111, 112, 46, 101, 120, 97, 109, 112, 108, 101, 47, 103, 48, 49, 48, 48, 51, 47, 108, 97, 119, 115, 46, 70, 110, 69, 120, 97, 99, 116, 77, 105, 100, 100, 108, 101, 77, 97, 112], [108, 111, 111, 112, 46, 101, 120, 97, 109, 112, 108, 101, 47, 103, 48, 49, 48, 48, 51, 47, 108, 97, 119, 115, 46, 70, 110, 69, 120, 97, 99, 116, 67, 111, 109, 112, 111, 115, 101, 77, 97, 112, 115], [108, 111, 111, 112, 46, 101, 120, 97, 109, 112, 108, 101, 47, 103, 48, 49, 48, 48, 51, 47, 108, 97, 119, 115, 46, 70, 110, 69, 120, 97, 99, 116, 68, 111, 67, 111, 109, 109, 117, 116, 101], [108, 111, 111, 112, 46, 101, 120, 97, 109, 112, 108, 101, 47, 103, 48, 49, 48, 48, 51, 47, 108, 97, 119, 115, 46, 70, 110, 69, 120, 97, 99, 116, 67, 108, 97, 109, 112, 77, 97, 112], [108, 111, 111, 112, 46, 101, 120, 97, 109, 112, 108, 101, 47, 103, 48, 49, 48, 48, 51, 47, 108, 97, 119, 115, 46, 70, 110, 69, 120, 97, 99, 116, 80, 111, 119, 101, 114, 79, 102, 77, 97, 112]] : List (List Nat)).map fun w => w.map Char.ofNat
set_option maxRecDepth 100000 in
theorem headL : Tryz.pinned.checked.prog.initOrder.toList = (([104, 97, 114, 110, 101, 115, 115, 32, 98, 102, 54, 101, 54, 55, 52, 51, 97, 51, 52, 98, 98, 97, 50, 55, 55, 101, 51, 50, 55, 97, 56, 52, 50, 102, 48, 56, 53, 51, 100, 51, 55, 100, 101, 100, 49, 48, 53, 51, 99, 50, 97, 55, 98, 55, 53, 53, 57, 57, 98, 98, 101, 51, 57, 50, 56, 53, 56, 100, 57, 98, 57, 57, 32, 99, 117, 116, 32, 97, 116, 32, 108, 111, 111, 112, 46, 101, 120, 97, 109, 112, 108, 101, 47, 103, 48, 49, 48, 48, 51, 47, 108, 97, 119, 115, 46, 70, 110, 69, 120, 97, 99, 116, 77, 105, 100, 100, 108, 101, 77, 97, 112, 32, 108, 111, 111, 112, 46, 101, 120, 97, 109, 112, 108, 101, 47, 103, 48, 49, 48, 48, 51, 47, 108, 97, 119, 115, 46, 70, 110, 69, 120, 97, 99, 116, 67, 111, 109, 112, 111, 115, 101, 77, 97, 112, 115, 32, 108, 111, 111, 112, 46, 101, 120, 97, 109, 112, 108, 101, 47, 103, 48, 49, 48, 48, 51, 47, 108, 97, 119, 115, 46, 70, 110, 69, 120, 97, 99, 116, 68, 111, 67, 111, 109, 109, 117, 116, 101, 32, 108, 111, 111, 112, 46, 101, 120, 97, 109, 112, 108, 101, 47, 103, 48, 49, 48, 48, 51, 47, 108, 97, 119, 115, 46, 70, 110, 69, 120, 97, 99, 116, 67, 108, 97, 109, 112, 77, 97, 112, 32, 108, 111, 111, 112, 46, 101, 120, 97, 109, 112, 108, 101, 47, 103, 48, 49, 48, 48, 51, 47, 108, 97, 119, 115, 46, 70, 110, 69, 120, 97, 99, 116, 80, 111, 119, 101, 114, 79, 102, 77, 97, 112] : List Nat).map Char.ofNat) := (congrArg String.toList headIs).trans (String.toList_ofList (l := _))
theorem headW : wordsSigns Tryz.pinned.checked.prog.initOrder.toList = headWords := by rw [headL]; kernel_rfl

theorem headCut : behindMainWord headWords = [99, 117, 116].map Char.ofNat :: headRest := by kernel_rfl
theorem headLifts : Tryz.pinned.checked.prog.headLifts = [] := by unfold Program.headLifts; rw [headW]; kernel_rfl
theorem headFinal : Tryz.pinned.checked.prog.liftsFinal = false := by unfold Program.liftsFinal; rw [headW, headLifts]; kernel_rfl
theorem make_of {Q : Program} {W r : List (List Char)} {c : List Char} (h : wordsSigns Q.initOrder.toList = W) (h2 : behindMainWord W = c :: r) (k1 : (c == "gc".toList || c == "spec".toList) = false)
    (k2 : (c == "cut".toList || (c == "finals".toList && r.head? == some "cut".toList)) = true) : Q.make = some .cut := by
  unfold Program.make
  rw [h, h2]
  simp only [k1, k2, if_true]
  rfl
theorem enter_of {Q : Program} {W r : List (List Char)} {c : List Char} (h : wordsSigns Q.initOrder.toList = W) (h2 : behindMainWord W = c :: r)
    (k : ((stripLifts liftWords (c :: r)).2.head? == some "cut".toList &&
      ((stripLifts liftWords (c :: r)).1.contains "finals" || !Q.laysLater) && ((stripLifts liftWords (c :: r)).1.contains "reflectrows" || !Q.bearsReflect) &&
      ((stripLifts liftWords (c :: r)).1.contains "reflectrows" || !(stripLifts liftWords (c :: r)).1.contains "leanrows") && Q.doorFits (stripLifts liftWords (c :: r)).1) = true) : Q.mayEnter = true := by
  unfold Program.mayEnter
  rw [h, h2]
  simp only [k, Bool.or_true]
theorem headMake : Tryz.pinned.checked.prog.make = some .cut := make_of headW headCut (by kernel_rfl) (by kernel_rfl)
theorem headEnter : Tryz.pinned.checked.prog.mayEnter = true := enter_of headW headCut (by kernel_rfl)

theorem beq_of {α : Type} [BEq α] {a b c : α} (h : b = c) (k : (a == c) = true) : (a == b) = true := by rw [h]; exact k
theorem beq_of' {α : Type} [BEq α] {a b c : α} (h : b = c) (k : (c == a) = true) : (b == a) = true := by rw [h]; exact k

end Go.Proofs.YtkaekjhcphgldaaGreat
