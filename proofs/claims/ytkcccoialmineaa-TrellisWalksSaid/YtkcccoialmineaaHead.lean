/-
  The cut's head, letter by letter: what every row of this seat asks of it, asked once.
-/
import Derived.Test.YtkcccoialmineaaRows
import Derived.JoinedOf
namespace Go.Proofs.Ytkcccoialmineaa
def headCodes : List Nat := [104, 97, 114, 110, 101, 115, 115, 32, 54, 99, 97, 99, 50, 49, 57, 48, 54, 100, 57, 56, 51, 50, 99, 100, 51, 52, 98, 53, 102, 51, 48, 53, 100, 51, 51, 53, 56, 48, 101, 101, 50, 55, 100, 57, 101, 99, 54, 52, 53, 55, 100, 51, 98, 52, 49, 54, 54, 97, 52, 56, 51, 101, 49, 98, 51, 52, 51, 100, 56, 56, 50, 55, 32, 99, 117, 116, 32, 97, 116, 32, 117, 115, 101, 114, 112, 108, 97, 110, 101, 47, 117, 115, 101, 114, 112, 108, 97, 110, 101, 108, 97, 119, 48, 55, 46, 84, 114, 101, 108, 108, 105, 115, 83, 116, 101, 112, 115, 32, 117, 115, 101, 114, 112, 108, 97, 110, 101, 47, 117, 115, 101, 114, 112, 108, 97, 110, 101, 108, 97, 119, 48, 55, 46, 84, 114, 101, 108, 108, 105, 115, 69, 110, 99, 111, 100, 101, 115, 32, 117, 115, 101, 114, 112, 108, 97, 110, 101, 47, 117, 115, 101, 114, 112, 108, 97, 110, 101, 108, 97, 119, 48, 55, 46, 84, 114, 101, 108, 108, 105, 115, 66, 114, 97, 110, 99, 104, 101, 115, 32, 117, 115, 101, 114, 112, 108, 97, 110, 101, 47, 117, 115, 101, 114, 112, 108, 97, 110, 101, 108, 97, 119, 48, 55, 46, 84, 114, 101, 108, 108, 105, 115, 76, 105, 110, 101, 97, 114, 32, 117, 115, 101, 114, 112, 108, 97, 110, 101, 47, 117, 115, 101, 114, 112, 108, 97, 110, 101, 108, 97, 119, 48, 55, 46, 84, 114, 101, 108, 108, 105, 115, 69, 110, 100, 115, 32, 117, 115, 101, 114, 112, 108, 97, 110, 101, 47, 117, 115, 101, 114, 112, 108, 97, 110, 101, 108, 97, 119, 48, 55, 46, 84, 114, 101, 108, 108, 105, 115, 72, 111, 108, 100, 115, 32, 117, 115, 101, 114, 112, 108, 97, 110, 101, 47, 117, 115, 101, 114, 112, 108, 97, 110, 101, 108, 97, 119, 48, 55, 46, 84, 114, 101, 108, 108, 105, 115, 87, 97, 108, 107, 115]
theorem head_eq : Try.prog.initOrder = String.ofList (headCodes.map Char.ofNat) := by kernel_rfl
theorem head_list : Try.prog.initOrder.toList = headCodes.map Char.ofNat := by rw [head_eq, String.toList_ofList]
def headWords : List (List Nat) := [[99, 117, 116], [97, 116], [117, 115, 101, 114, 112, 108, 97, 110, 101, 47, 117, 115, 101, 114, 112, 108, 97, 110, 101, 108, 97, 119, 48, 55, 46, 84, 114, 101, 108, 108, 105, 115, 83, 116, 101, 112, 115], [117, 115, 101, 114, 112, 108, 97, 110, 101, 47, 117, 115, 101, 114, 112, 108, 97, 110, 101, 108, 97, 119, 48, 55, 46, 84, 114, 101, 108, 108, 105, 115, 69, 110, 99, 111, 100, 101, 115], [117, 115, 101, 114, 112, 108, 97, 110, 101, 47, 117, 115, 101, 114, 112, 108, 97, 110, 101, 108, 97, 119, 48, 55, 46, 84, 114, 101, 108, 108, 105, 115, 66, 114, 97, 110, 99, 104, 101, 115], [117, 115, 101, 114, 112, 108, 97, 110, 101, 47, 117, 115, 101, 114, 112, 108, 97, 110, 101, 108, 97, 119, 48, 55, 46, 84, 114, 101, 108, 108, 105, 115, 76, 105, 110, 101, 97, 114], [117, 115, 101, 114, 112, 108, 97, 110, 101, 47, 117, 115, 101, 114, 112, 108, 97, 110, 101, 108, 97, 119, 48, 55, 46, 84, 114, 101, 108, 108, 105, 115, 69, 110, 100, 115], [117, 115, 101, 114, 112, 108, 97, 110, 101, 47, 117, 115, 101, 114, 112, 108, 97, 110, 101, 108, 97, 119, 48, 55, 46, 84, 114, 101, 108, 108, 105, 115, 72, 111, 108, 100, 115], [117, 115, 101, 114, 112, 108, 97, 110, 101, 47, 117, 115, 101, 114, 112, 108, 97, 110, 101, 108, 97, 119, 48, 55, 46, 84, 114, 101, 108, 108, 105, 115, 87, 97, 108, 107, 115]]
def headCs : List (List Char) := headWords.map (·.map Char.ofNat)
theorem head_words : behindMainWord (wordsSigns Try.prog.initOrder.toList) = headCs := by
  rw [head_list]
  kernel_rfl
/-! Of whatever program whose head's first word, behind the harness's sum, is 'cut'. -/
theorem strip_cut (rest : List (List Char)) : stripLifts liftWords ("cut".toList :: rest) = ([], "cut".toList :: rest) := by
  simp [stripLifts, liftWords]
theorem lifts_cut (P : Program) (rest : List (List Char)) (h : behindMainWord (wordsSigns P.initOrder.toList) = "cut".toList :: rest) : P.headLifts = [] := by
  unfold Program.headLifts
  rw [h, strip_cut]
  simp
theorem enter_cut (P : Program) (rest : List (List Char)) (h : behindMainWord (wordsSigns P.initOrder.toList) = "cut".toList :: rest)
    (h1 : P.laysLater = false) (h2 : P.bearsReflect = false) (h3 : P.doorFits [] = true) : P.mayEnter = true := by
  unfold Program.mayEnter
  rw [h]
  simp only [strip_cut]
  simp [h1, h2, h3]
theorem final_cut (P : Program) (rest : List (List Char)) (h : behindMainWord (wordsSigns P.initOrder.toList) = "cut".toList :: rest) : P.liftsFinal = false := by
  unfold Program.liftsFinal
  rw [h, lifts_cut P rest h]
  simp
theorem make_cut (P : Program) (rest : List (List Char)) (h : behindMainWord (wordsSigns P.initOrder.toList) = "cut".toList :: rest) : P.make = some .cut := by
  unfold Program.make
  rw [h]
  simp
theorem head_cs : headCs = "cut".toList :: headCs.tail := by kernel_rfl
theorem head_cut : behindMainWord (wordsSigns Try.prog.initOrder.toList) = "cut".toList :: headCs.tail := head_words.trans head_cs
theorem k1 : Try.prog.laysLater = false := by kernel_rfl
theorem k2 : Try.prog.bearsReflect = false := by kernel_rfl
theorem k3 : Try.prog.doorFits [] = true := by kernel_rfl
theorem head_enter : Try.prog.mayEnter = true := enter_cut _ _ head_cut k1 k2 k3
theorem head_final : Try.prog.liftsFinal = false := final_cut _ _ head_cut
theorem head_make : Try.prog.make = some .cut := make_cut _ _ head_cut
theorem tt {a b : Bool} (h : a = true) (k : b = true) : (a && b) = true := by rw [h, k]; rfl
theorem make_beq (P : Program) (h : P.make = some .cut) : (P.make == some Make.cut) = true := by rw [h]; rfl
theorem lifted_beq (P : Program) (h : P.liftsFinal = false) : (false == P.liftsFinal) = true := by rw [h]; rfl
end Go.Proofs.Ytkcccoialmineaa
