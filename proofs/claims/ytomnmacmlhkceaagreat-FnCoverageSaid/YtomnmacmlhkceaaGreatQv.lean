/- The program's closed facts that all laws of the seat share. -/
import Derived.Test.YtomnmacmlhkceaaGreatRows
import Derived.Test.YtomnmacmlhkceaaGreatProg
import Derived.Test.YtomnmacmlhkceaaGreatChecked
import Derived.KernelRfl
import Derived.JoinedOf
namespace Go.Proofs.YtomnmacmlhkceaaGreat
open Go

def ioL : List Char := [Char.ofNat 104, Char.ofNat 97, Char.ofNat 114, Char.ofNat 110, Char.ofNat 101, Char.ofNat 115, Char.ofNat 115, Char.ofNat 32, Char.ofNat 48, Char.ofNat 99, Char.ofNat 50, Char.ofNat 55, Char.ofNat 49, Char.ofNat 101, Char.ofNat 52, Char.ofNat 97, Char.ofNat 102, Char.ofNat 51, Char.ofNat 50, Char.ofNat 51, Char.ofNat 48, Char.ofNat 54, Char.ofNat 51, Char.ofNat 48, Char.ofNat 48, Char.ofNat 56, Char.ofNat 102, Char.ofNat 56, Char.ofNat 101, Char.ofNat 56, Char.ofNat 53, Char.ofNat 53, Char.ofNat 55, Char.ofNat 101, Char.ofNat 56, Char.ofNat 52, Char.ofNat 48, Char.ofNat 97, Char.ofNat 99, Char.ofNat 98, Char.ofNat 51, Char.ofNat 97, Char.ofNat 54, Char.ofNat 99, Char.ofNat 55, Char.ofNat 101, Char.ofNat 97, Char.ofNat 53, Char.ofNat 51, Char.ofNat 98, Char.ofNat 57, Char.ofNat 49, Char.ofNat 97, Char.ofNat 48, Char.ofNat 98, Char.ofNat 100, Char.ofNat 51, Char.ofNat 51, Char.ofNat 102, Char.ofNat 50, Char.ofNat 53, Char.ofNat 98, Char.ofNat 100, Char.ofNat 53, Char.ofNat 100, Char.ofNat 100, Char.ofNat 97, Char.ofNat 97, Char.ofNat 55, Char.ofNat 55, Char.ofNat 101, Char.ofNat 101, Char.ofNat 32, Char.ofNat 99, Char.ofNat 117, Char.ofNat 116, Char.ofNat 32, Char.ofNat 97, Char.ofNat 116, Char.ofNat 32, Char.ofNat 108, Char.ofNat 111, Char.ofNat 111, Char.ofNat 112, Char.ofNat 46, Char.ofNat 101, Char.ofNat 120, Char.ofNat 97, Char.ofNat 109, Char.ofNat 112, Char.ofNat 108, Char.ofNat 101, Char.ofNat 47, Char.ofNat 103, Char.ofNat 48, Char.ofNat 49, Char.ofNat 49, Char.ofNat 49, Char.ofNat 48, Char.ofNat 47, Char.ofNat 108, Char.ofNat 97, Char.ofNat 119, Char.ofNat 115, Char.ofNat 46, Char.ofNat 70, Char.ofNat 110, Char.ofNat 67, Char.ofNat 101, Char.ofNat 110, Char.ofNat 116, Char.ofNat 114, Char.ofNat 101, Char.ofNat 115, Char.ofNat 32, Char.ofNat 108, Char.ofNat 111, Char.ofNat 111, Char.ofNat 112, Char.ofNat 46, Char.ofNat 101, Char.ofNat 120, Char.ofNat 97, Char.ofNat 109, Char.ofNat 112, Char.ofNat 108, Char.ofNat 101, Char.ofNat 47, Char.ofNat 103, Char.ofNat 48, Char.ofNat 49, Char.ofNat 49, Char.ofNat 49, Char.ofNat 48, Char.ofNat 47, Char.ofNat 108, Char.ofNat 97, Char.ofNat 119, Char.ofNat 115, Char.ofNat 46, Char.ofNat 70, Char.ofNat 110, Char.ofNat 83, Char.ofNat 119, Char.ofNat 97, Char.ofNat 112, Char.ofNat 115, Char.ofNat 32, Char.ofNat 108, Char.ofNat 111, Char.ofNat 111, Char.ofNat 112, Char.ofNat 46, Char.ofNat 101, Char.ofNat 120, Char.ofNat 97, Char.ofNat 109, Char.ofNat 112, Char.ofNat 108, Char.ofNat 101, Char.ofNat 47, Char.ofNat 103, Char.ofNat 48, Char.ofNat 49, Char.ofNat 49, Char.ofNat 49, Char.ofNat 48, Char.ofNat 47, Char.ofNat 108, Char.ofNat 97, Char.ofNat 119, Char.ofNat 115, Char.ofNat 46, Char.ofNat 70, Char.ofNat 110, Char.ofNat 77, Char.ofNat 101, Char.ofNat 100, Char.ofNat 105, Char.ofNat 97, Char.ofNat 110, Char.ofNat 115, Char.ofNat 32, Char.ofNat 108, Char.ofNat 111, Char.ofNat 111, Char.ofNat 112, Char.ofNat 46, Char.ofNat 101, Char.ofNat 120, Char.ofNat 97, Char.ofNat 109, Char.ofNat 112, Char.ofNat 108, Char.ofNat 101, Char.ofNat 47, Char.ofNat 103, Char.ofNat 48, Char.ofNat 49, Char.ofNat 49, Char.ofNat 49, Char.ofNat 48, Char.ofNat 47, Char.ofNat 108, Char.ofNat 97, Char.ofNat 119, Char.ofNat 115, Char.ofNat 46, Char.ofNat 70, Char.ofNat 110, Char.ofNat 67, Char.ofNat 111, Char.ofNat 118, Char.ofNat 101, Char.ofNat 114, Char.ofNat 105, Char.ofNat 110, Char.ofNat 103, Char.ofNat 115, Char.ofNat 32, Char.ofNat 108, Char.ofNat 111, Char.ofNat 111, Char.ofNat 112, Char.ofNat 46, Char.ofNat 101, Char.ofNat 120, Char.ofNat 97, Char.ofNat 109, Char.ofNat 112, Char.ofNat 108, Char.ofNat 101, Char.ofNat 47, Char.ofNat 103, Char.ofNat 48, Char.ofNat 49, Char.ofNat 49, Char.ofNat 49, Char.ofNat 48, Char.ofNat 47, Char.ofNat 108, Char.ofNat 97, Char.ofNat 119, Char.ofNat 115, Char.ofNat 46, Char.ofNat 70, Char.ofNat 110, Char.ofNat 70, Char.ofNat 97, Char.ofNat 114, Char.ofNat 67, Char.ofNat 108, Char.ofNat 105, Char.ofNat 101, Char.ofNat 110, Char.ofNat 116, Char.ofNat 115, Char.ofNat 32, Char.ofNat 108, Char.ofNat 111, Char.ofNat 111, Char.ofNat 112, Char.ofNat 46, Char.ofNat 101, Char.ofNat 120, Char.ofNat 97, Char.ofNat 109, Char.ofNat 112, Char.ofNat 108, Char.ofNat 101, Char.ofNat 47, Char.ofNat 103, Char.ofNat 48, Char.ofNat 49, Char.ofNat 49, Char.ofNat 49, Char.ofNat 48, Char.ofNat 47, Char.ofNat 108, Char.ofNat 97, Char.ofNat 119, Char.ofNat 115, Char.ofNat 46, Char.ofNat 70, Char.ofNat 110, Char.ofNat 67, Char.ofNat 111, Char.ofNat 118, Char.ofNat 101, Char.ofNat 114, Char.ofNat 97, Char.ofNat 103, Char.ofNat 101]
theorem io1 : Tryz.prog.initOrder = String.ofList ioL := by kernel_rfl
theorem io2 : Tryz.prog.initOrder.toList = ioL := by rw [io1]; exact String.toList_ofList
def ioW : List Char := [Char.ofNat 99, Char.ofNat 117, Char.ofNat 116]
def ioR : List (List Char) := (wordsSigns ioL).drop 3
theorem io3 : behindMainWord (wordsSigns Tryz.prog.initOrder.toList) = ioW :: ioR := by rw [io2]; kernel_rfl
theorem pf_laid : laidOutB Tryz.prog = true := by kernel_rfl
theorem pf_maps : mapsRowed Tryz.prog = true := by kernel_rfl
theorem pf_stops : (Tryz.prog.stops == []) = true := by kernel_rfl
theorem pf_knobs : (Tryz.prog.stopKnobs == []) = true := by kernel_rfl
theorem pf_keys : (true == Tryz.prog.plainKeys) = true := by kernel_rfl
theorem pf_heard : Tryz.prog.stopsHeard = true := by kernel_rfl
theorem pf_lifts : Tryz.prog.headLifts = [] := by unfold Program.headLifts; rw [io3]; kernel_rfl
theorem strip_cut (rest : List (List Char)) : stripLifts liftWords (ioW :: rest) = ([], ioW :: rest) := by kernel_rfl
theorem enter_of {P : Program} {rest : List (List Char)} (h : behindMainWord (wordsSigns P.initOrder.toList) = ioW :: rest) (h1 : P.laysLater = false) (h2 : P.bearsReflect = false) (h3 : P.doorFits [] = true) : P.mayEnter = true := by
  unfold Program.mayEnter
  rw [h]
  show ((_ || _ || _) : Bool) = true
  rw [strip_cut, h1, h2, h3]
  have e : (((ioW :: rest).head? == some "cut".toList) && (([] : List String).contains "finals" || !false) && (([] : List String).contains "reflectrows" || !false) && (([] : List String).contains "reflectrows" || !([] : List String).contains "leanrows") && true) = true := by kernel_rfl
  rw [e]
  exact Bool.or_true _
theorem make_of {P : Program} {rest : List (List Char)} (h : behindMainWord (wordsSigns P.initOrder.toList) = ioW :: rest) : P.make = some Make.cut := by
  unfold Program.make
  rw [h]
  show (if (ioW == "gc".toList || ioW == "spec".toList) = true then _ else if (ioW == "cut".toList || _) = true then _ else _) = _
  have e1 : (ioW == "gc".toList || ioW == "spec".toList) = false := by kernel_rfl
  have e2 : (ioW == "cut".toList) = true := by kernel_rfl
  rw [e1, e2]
  rfl
theorem pf_later : Tryz.prog.laysLater = false := by kernel_rfl
theorem pf_reflect : Tryz.prog.bearsReflect = false := by kernel_rfl
theorem pf_door : Tryz.prog.doorFits [] = true := by kernel_rfl
theorem pf_enter : Tryz.prog.mayEnter = true := enter_of io3 pf_later pf_reflect pf_door
theorem pf_final : (false == Tryz.prog.liftsFinal) = true := by unfold Program.liftsFinal; rw [io3, pf_lifts]; kernel_rfl
theorem pf_make : (Tryz.prog.make == some Make.cut) = true := by rw [make_of io3]; kernel_rfl
end Go.Proofs.YtomnmacmlhkceaaGreat
