/-
  The cut's head, letter by letter: what every row of this seat asks of it, asked once.
-/
import Derived.Test.YtdnpbemkobhlcaaRows
import Derived.JoinedOf
namespace Go.Proofs.Ytdnpbemkobhlcaa
def headCodes : List Nat := [104, 97, 114, 110, 101, 115, 115, 32, 49, 51, 100, 53, 102, 54, 52, 98, 97, 56, 48, 48, 101, 56, 55, 98, 51, 49, 102, 54, 48, 55, 56, 98, 98, 56, 56, 55, 54, 97, 57, 56, 53, 53, 48, 99, 98, 56, 56, 54, 101, 99, 57, 55, 100, 55, 52, 49, 49, 99, 99, 56, 55, 51, 52, 100, 50, 56, 102, 48, 51, 97, 102, 100, 32, 99, 117, 116, 32, 97, 116, 32, 117, 115, 101, 114, 112, 108, 97, 110, 101, 47, 117, 115, 101, 114, 112, 108, 97, 110, 101, 108, 97, 119, 52, 57, 46, 70, 97, 105, 114, 67, 111, 112, 105, 101, 115, 32, 117, 115, 101, 114, 112, 108, 97, 110, 101, 47, 117, 115, 101, 114, 112, 108, 97, 110, 101, 108, 97, 119, 52, 57, 46, 70, 97, 105, 114, 78, 105, 108, 32, 117, 115, 101, 114, 112, 108, 97, 110, 101, 47, 117, 115, 101, 114, 112, 108, 97, 110, 101, 108, 97, 119, 52, 56, 46, 82, 97, 116, 105, 111, 80, 114, 111, 100, 117, 99, 116, 115, 32, 117, 115, 101, 114, 112, 108, 97, 110, 101, 47, 117, 115, 101, 114, 112, 108, 97, 110, 101, 108, 97, 119, 52, 56, 46, 82, 97, 116, 105, 111, 67, 111, 109, 112, 97, 114, 101, 115, 32, 117, 115, 101, 114, 112, 108, 97, 110, 101, 47, 117, 115, 101, 114, 112, 108, 97, 110, 101, 108, 97, 119, 52, 56, 46, 82, 97, 116, 105, 111, 80, 114, 101, 111, 114, 100, 101, 114, 32, 117, 115, 101, 114, 112, 108, 97, 110, 101, 47, 117, 115, 101, 114, 112, 108, 97, 110, 101, 108, 97, 119, 52, 56, 46, 82, 97, 116, 105, 111, 66, 101, 115, 116, 115, 32, 117, 115, 101, 114, 112, 108, 97, 110, 101, 47, 117, 115, 101, 114, 112, 108, 97, 110, 101, 108, 97, 119, 52, 56, 46, 82, 97, 116, 105, 111, 79, 114, 100, 101, 114, 115, 32, 117, 115, 101, 114, 112, 108, 97, 110, 101, 47, 117, 115, 101, 114, 112, 108, 97, 110, 101, 108, 97, 119, 52, 56, 46, 82, 97, 116, 105, 111, 82, 101, 100, 117, 99, 101, 115, 32, 117, 115, 101, 114, 112, 108, 97, 110, 101, 47, 117, 115, 101, 114, 112, 108, 97, 110, 101, 108, 97, 119, 52, 56, 46, 82, 97, 116, 105, 111, 84, 101, 114, 109, 115, 32, 117, 115, 101, 114, 112, 108, 97, 110, 101, 47, 117, 115, 101, 114, 112, 108, 97, 110, 101, 108, 97, 119, 52, 57, 46, 70, 97, 105, 114, 83, 104, 97, 114, 101, 115, 32, 117, 115, 101, 114, 112, 108, 97, 110, 101, 47, 117, 115, 101, 114, 112, 108, 97, 110, 101, 108, 97, 119, 52, 57, 46, 70, 97, 105, 114, 82, 117, 110, 115, 32, 117, 115, 101, 114, 112, 108, 97, 110, 101, 47, 117, 115, 101, 114, 112, 108, 97, 110, 101, 108, 97, 119, 52, 57, 46, 70, 97, 105, 114, 70, 105, 114, 115, 116, 32, 117, 115, 101, 114, 112, 108, 97, 110, 101, 47, 117, 115, 101, 114, 112, 108, 97, 110, 101, 108, 97, 119, 52, 57, 46, 70, 97, 105, 114, 71, 114, 111, 119, 115]
theorem head_eq : Try.prog.initOrder = String.ofList (headCodes.map Char.ofNat) := by kernel_rfl
theorem head_list : Try.prog.initOrder.toList = headCodes.map Char.ofNat := by rw [head_eq, String.toList_ofList]
def headWords : List (List Nat) := [[99, 117, 116], [97, 116], [117, 115, 101, 114, 112, 108, 97, 110, 101, 47, 117, 115, 101, 114, 112, 108, 97, 110, 101, 108, 97, 119, 52, 57, 46, 70, 97, 105, 114, 67, 111, 112, 105, 101, 115], [117, 115, 101, 114, 112, 108, 97, 110, 101, 47, 117, 115, 101, 114, 112, 108, 97, 110, 101, 108, 97, 119, 52, 57, 46, 70, 97, 105, 114, 78, 105, 108], [117, 115, 101, 114, 112, 108, 97, 110, 101, 47, 117, 115, 101, 114, 112, 108, 97, 110, 101, 108, 97, 119, 52, 56, 46, 82, 97, 116, 105, 111, 80, 114, 111, 100, 117, 99, 116, 115], [117, 115, 101, 114, 112, 108, 97, 110, 101, 47, 117, 115, 101, 114, 112, 108, 97, 110, 101, 108, 97, 119, 52, 56, 46, 82, 97, 116, 105, 111, 67, 111, 109, 112, 97, 114, 101, 115], [117, 115, 101, 114, 112, 108, 97, 110, 101, 47, 117, 115, 101, 114, 112, 108, 97, 110, 101, 108, 97, 119, 52, 56, 46, 82, 97, 116, 105, 111, 80, 114, 101, 111, 114, 100, 101, 114], [117, 115, 101, 114, 112, 108, 97, 110, 101, 47, 117, 115, 101, 114, 112, 108, 97, 110, 101, 108, 97, 119, 52, 56, 46, 82, 97, 116, 105, 111, 66, 101, 115, 116, 115], [117, 115, 101, 114, 112, 108, 97, 110, 101, 47, 117, 115, 101, 114, 112, 108, 97, 110, 101, 108, 97, 119, 52, 56, 46, 82, 97, 116, 105, 111, 79, 114, 100, 101, 114, 115], [117, 115, 101, 114, 112, 108, 97, 110, 101, 47, 117, 115, 101, 114, 112, 108, 97, 110, 101, 108, 97, 119, 52, 56, 46, 82, 97, 116, 105, 111, 82, 101, 100, 117, 99, 101, 115], [117, 115, 101, 114, 112, 108, 97, 110, 101, 47, 117, 115, 101, 114, 112, 108, 97, 110, 101, 108, 97, 119, 52, 56, 46, 82, 97, 116, 105, 111, 84, 101, 114, 109, 115], [117, 115, 101, 114, 112, 108, 97, 110, 101, 47, 117, 115, 101, 114, 112, 108, 97, 110, 101, 108, 97, 119, 52, 57, 46, 70, 97, 105, 114, 83, 104, 97, 114, 101, 115], [117, 115, 101, 114, 112, 108, 97, 110, 101, 47, 117, 115, 101, 114, 112, 108, 97, 110, 101, 108, 97, 119, 52, 57, 46, 70, 97, 105, 114, 82, 117, 110, 115], [117, 115, 101, 114, 112, 108, 97, 110, 101, 47, 117, 115, 101, 114, 112, 108, 97, 110, 101, 108, 97, 119, 52, 57, 46, 70, 97, 105, 114, 70, 105, 114, 115, 116], [117, 115, 101, 114, 112, 108, 97, 110, 101, 47, 117, 115, 101, 114, 112, 108, 97, 110, 101, 108, 97, 119, 52, 57, 46, 70, 97, 105, 114, 71, 114, 111, 119, 115]]
def headCs : List (List Char) := headWords.map (·.map Char.ofNat)
theorem head_words : behindMainWord (wordsSigns Try.prog.initOrder.toList) = headCs := by
  rw [head_list]
  kernel_rfl
/-! Of whatever program whose head's first word, behind the harness's sum, is 'cut'. -/
theorem strip_cut (rest : List (List Char)) : stripLifts liftWords ("cut".toList :: rest) = ([], "cut".toList :: rest) := by
  simp [stripLifts, liftWords]
theorem lifts_cut (P : Program) (rest : List (List Char)) (h : behindMainWord (wordsSigns P.initOrder.toList) = "cut".toList :: rest) : P.headLifts = [] := by
  unfold Program.headLifts
  rw [h, strip_cut]
  simp
theorem enter_cut (P : Program) (rest : List (List Char)) (h : behindMainWord (wordsSigns P.initOrder.toList) = "cut".toList :: rest)
    (h1 : P.laysLater = false) (h2 : P.bearsReflect = false) (h3 : P.doorFits [] = true) : P.mayEnter = true := by
  unfold Program.mayEnter
  rw [h]
  simp only [strip_cut]
  simp [h1, h2, h3]
theorem final_cut (P : Program) (rest : List (List Char)) (h : behindMainWord (wordsSigns P.initOrder.toList) = "cut".toList :: rest) : P.liftsFinal = false := by
  unfold Program.liftsFinal
  rw [h, lifts_cut P rest h]
  simp
theorem make_cut (P : Program) (rest : List (List Char)) (h : behindMainWord (wordsSigns P.initOrder.toList) = "cut".toList :: rest) : P.make = some .cut := by
  unfold Program.make
  rw [h]
  simp
theorem head_cs : headCs = "cut".toList :: headCs.tail := by kernel_rfl
theorem head_cut : behindMainWord (wordsSigns Try.prog.initOrder.toList) = "cut".toList :: headCs.tail := head_words.trans head_cs
theorem k1 : Try.prog.laysLater = false := by kernel_rfl
theorem k2 : Try.prog.bearsReflect = false := by kernel_rfl
theorem k3 : Try.prog.doorFits [] = true := by kernel_rfl
theorem head_enter : Try.prog.mayEnter = true := enter_cut _ _ head_cut k1 k2 k3
theorem head_final : Try.prog.liftsFinal = false := final_cut _ _ head_cut
theorem head_make : Try.prog.make = some .cut := make_cut _ _ head_cut
theorem tt {a b : Bool} (h : a = true) (k : b = true) : (a && b) = true := by rw [h, k]; rfl
theorem make_beq (P : Program) (h : P.make = some .cut) : (P.make == some Make.cut) = true := by rw [h]; rfl
theorem lifted_beq (P : Program) (h : P.liftsFinal = false) : (false == P.liftsFinal) = true := by rw [h]; rfl
end Go.Proofs.Ytdnpbemkobhlcaa
