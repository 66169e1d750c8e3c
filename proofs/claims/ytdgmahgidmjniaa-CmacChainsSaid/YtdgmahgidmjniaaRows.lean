/-
  No cell of these rows narrows 'for every input' (looked for: loops, veiled, ifaces, maps, wideKeys, modest, calm, conditions, laid).
  DERIVED. THE GIVEN ROWS OF THIS SEAT. 23 by the template 'for every input the law returns true; each argument reads behind the call as it read before'; 0 by the template 'total and deterministic' (their statements: YtdgmahgidmjniaaTotals.lean).
  GIVEN WITH THE SEED: the statements are not yours to turn. If you find one false, say at which input.
  Laid BY PROGRAM, IN A SANDBOX (cutbox-rows.mjs): the forced cells as the released guide's own fill.sh prints them over the translation fd86e2ca3017331b… (all of the seat's roots in one cut). By AI agents, Wed Nov 11 2026. No macro, syntax, notation, axiom, sorry.
-/
import Derived.Test.YtdgmahgidmjniaaChecked
import GoSem.Claim
import GoSem.ClaimJoined
import GoSem.ClaimMapViews
import Derived.JoinedTies
import Derived.KernelRfl
namespace Go.Proofs.Ytdgmahgidmjniaa
/- THE CELL 'sum', in the pinned program and in every row, IS THE sha256 OF THE DUMP (.gsa) THAT YtdgmahgidmjniaaProg.lean LOADS. Nothing in Lean hashes anything: it is a label: what it is worth is what the hold of that sum in a sandbox is worth. -/
noncomputable def Try.pinned : Pinned := { name := "ytdgmahgidmjniaa", sum := "fd86e2ca3017331b4c88191fd57a71f120a3023c242f29f13de21adf9eb85865", checked := Try.checked }
namespace Rows
def none {H : Type} : Left H := { results := [], args := [] }

/-- 'userplanelaw40.CtrBlocks': WHATEVER THE INPUT: true; the input reads as it did. -/
def ctrBlocksSpec : ChangeSpec := { name := "ctrBlocks", fn := fun _ => fun
  | [d1, d2] => { results := [.lit (.bool true)], args := [d1, d2] }
  | _ => none }
def ctrBlocksRow : OpenClaim := { program := "ytdgmahgidmjniaa", sum := "fd86e2ca3017331b4c88191fd57a71f120a3023c242f29f13de21adf9eb85865", func := "userplane/userplanelaw40.CtrBlocks", spec := "ctrBlocks", apart := false }
def CtrBlocksSaid : Prop := ctrBlocksRow.holds Try.pinned (OpenSpec.ofChange ctrBlocksSpec)

/-- ITS FALSE NEIGHBOUR: 'it returns false'. Refute it at one input. -/
def ctrBlocksWrong : ChangeSpec := { name := "ctrBlocks", fn := fun _ => fun
  | [d1, d2] => { results := [.lit (.bool false)], args := [d1, d2] }
  | _ => none }
def CtrBlocksWrongFalsely : Prop := ctrBlocksRow.holds Try.pinned (OpenSpec.ofChange ctrBlocksWrong)

/-- 'userplanelaw39.AesProducts': WHATEVER THE INPUT: true; the input reads as it did. -/
def aesProductsSpec : ChangeSpec := { name := "aesProducts", fn := fun _ => fun
  | [d1, d2] => { results := [.lit (.bool true)], args := [d1, d2] }
  | _ => none }
def aesProductsRow : OpenClaim := { program := "ytdgmahgidmjniaa", sum := "fd86e2ca3017331b4c88191fd57a71f120a3023c242f29f13de21adf9eb85865", func := "userplane/userplanelaw39.AesProducts", spec := "aesProducts", unfollowed := true, recurses := true, apart := false }
def AesProductsSaid : Prop := aesProductsRow.holds Try.pinned (OpenSpec.ofChange aesProductsSpec)

/-- ITS FALSE NEIGHBOUR: 'it returns false'. Refute it at one input. -/
def aesProductsWrong : ChangeSpec := { name := "aesProducts", fn := fun _ => fun
  | [d1, d2] => { results := [.lit (.bool false)], args := [d1, d2] }
  | _ => none }
def AesProductsWrongFalsely : Prop := aesProductsRow.holds Try.pinned (OpenSpec.ofChange aesProductsWrong)

/-- 'userplanelaw39.AesField': WHATEVER THE INPUT: true; the input reads as it did. -/
def aesFieldSpec : ChangeSpec := { name := "aesField", fn := fun _ => fun
  | [d1, d2, d3] => { results := [.lit (.bool true)], args := [d1, d2, d3] }
  | _ => none }
def aesFieldRow : OpenClaim := { program := "ytdgmahgidmjniaa", sum := "fd86e2ca3017331b4c88191fd57a71f120a3023c242f29f13de21adf9eb85865", func := "userplane/userplanelaw39.AesField", spec := "aesField", unfollowed := true, recurses := true, apart := false }
def AesFieldSaid : Prop := aesFieldRow.holds Try.pinned (OpenSpec.ofChange aesFieldSpec)

/-- ITS FALSE NEIGHBOUR: 'it returns false'. Refute it at one input. -/
def aesFieldWrong : ChangeSpec := { name := "aesField", fn := fun _ => fun
  | [d1, d2, d3] => { results := [.lit (.bool false)], args := [d1, d2, d3] }
  | _ => none }
def AesFieldWrongFalsely : Prop := aesFieldRow.holds Try.pinned (OpenSpec.ofChange aesFieldWrong)

/-- 'userplanelaw39.AesBoxes': WHATEVER THE INPUT: true; the input reads as it did. -/
def aesBoxesSpec : ChangeSpec := { name := "aesBoxes", fn := fun _ => fun
  | [d] => { results := [.lit (.bool true)], args := [d] }
  | _ => none }
def aesBoxesRow : OpenClaim := { program := "ytdgmahgidmjniaa", sum := "fd86e2ca3017331b4c88191fd57a71f120a3023c242f29f13de21adf9eb85865", func := "userplane/userplanelaw39.AesBoxes", spec := "aesBoxes", unfollowed := true, recurses := true, apart := false }
def AesBoxesSaid : Prop := aesBoxesRow.holds Try.pinned (OpenSpec.ofChange aesBoxesSpec)

/-- ITS FALSE NEIGHBOUR: 'it returns false'. Refute it at one input. -/
def aesBoxesWrong : ChangeSpec := { name := "aesBoxes", fn := fun _ => fun
  | [d] => { results := [.lit (.bool false)], args := [d] }
  | _ => none }
def AesBoxesWrongFalsely : Prop := aesBoxesRow.holds Try.pinned (OpenSpec.ofChange aesBoxesWrong)

/-- 'userplanelaw39.AesKeys': WHATEVER THE INPUT: true; the input reads as it did. -/
def aesKeysSpec : ChangeSpec := { name := "aesKeys", fn := fun _ => fun
  | [d] => { results := [.lit (.bool true)], args := [d] }
  | _ => none }
def aesKeysRow : OpenClaim := { program := "ytdgmahgidmjniaa", sum := "fd86e2ca3017331b4c88191fd57a71f120a3023c242f29f13de21adf9eb85865", func := "userplane/userplanelaw39.AesKeys", spec := "aesKeys", unfollowed := true, recurses := true, apart := false }
def AesKeysSaid : Prop := aesKeysRow.holds Try.pinned (OpenSpec.ofChange aesKeysSpec)

/-- ITS FALSE NEIGHBOUR: 'it returns false'. Refute it at one input. -/
def aesKeysWrong : ChangeSpec := { name := "aesKeys", fn := fun _ => fun
  | [d] => { results := [.lit (.bool false)], args := [d] }
  | _ => none }
def AesKeysWrongFalsely : Prop := aesKeysRow.holds Try.pinned (OpenSpec.ofChange aesKeysWrong)

/-- 'userplanelaw39.AesEncrypts': WHATEVER THE INPUT: true; the input reads as it did. -/
def aesEncryptsSpec : ChangeSpec := { name := "aesEncrypts", fn := fun _ => fun
  | [d1, d2] => { results := [.lit (.bool true)], args := [d1, d2] }
  | _ => none }
def aesEncryptsRow : OpenClaim := { program := "ytdgmahgidmjniaa", sum := "fd86e2ca3017331b4c88191fd57a71f120a3023c242f29f13de21adf9eb85865", func := "userplane/userplanelaw39.AesEncrypts", spec := "aesEncrypts", unfollowed := true, recurses := true, apart := false }
def AesEncryptsSaid : Prop := aesEncryptsRow.holds Try.pinned (OpenSpec.ofChange aesEncryptsSpec)

/-- ITS FALSE NEIGHBOUR: 'it returns false'. Refute it at one input. -/
def aesEncryptsWrong : ChangeSpec := { name := "aesEncrypts", fn := fun _ => fun
  | [d1, d2] => { results := [.lit (.bool false)], args := [d1, d2] }
  | _ => none }
def AesEncryptsWrongFalsely : Prop := aesEncryptsRow.holds Try.pinned (OpenSpec.ofChange aesEncryptsWrong)

/-- 'userplanelaw39.AesApart': WHATEVER THE INPUT: true; the input reads as it did. -/
def aesApartSpec : ChangeSpec := { name := "aesApart", fn := fun _ => fun
  | [d1, d2, d3] => { results := [.lit (.bool true)], args := [d1, d2, d3] }
  | _ => none }
def aesApartRow : OpenClaim := { program := "ytdgmahgidmjniaa", sum := "fd86e2ca3017331b4c88191fd57a71f120a3023c242f29f13de21adf9eb85865", func := "userplane/userplanelaw39.AesApart", spec := "aesApart", unfollowed := true, recurses := true, apart := false }
def AesApartSaid : Prop := aesApartRow.holds Try.pinned (OpenSpec.ofChange aesApartSpec)

/-- ITS FALSE NEIGHBOUR: 'it returns false'. Refute it at one input. -/
def aesApartWrong : ChangeSpec := { name := "aesApart", fn := fun _ => fun
  | [d1, d2, d3] => { results := [.lit (.bool false)], args := [d1, d2, d3] }
  | _ => none }
def AesApartWrongFalsely : Prop := aesApartRow.holds Try.pinned (OpenSpec.ofChange aesApartWrong)

/-- 'userplanelaw39.AesBack': WHATEVER THE INPUT: true; the input reads as it did. -/
def aesBackSpec : ChangeSpec := { name := "aesBack", fn := fun _ => fun
  | [d1, d2] => { results := [.lit (.bool true)], args := [d1, d2] }
  | _ => none }
def aesBackRow : OpenClaim := { program := "ytdgmahgidmjniaa", sum := "fd86e2ca3017331b4c88191fd57a71f120a3023c242f29f13de21adf9eb85865", func := "userplane/userplanelaw39.AesBack", spec := "aesBack", unfollowed := true, recurses := true, apart := false }
def AesBackSaid : Prop := aesBackRow.holds Try.pinned (OpenSpec.ofChange aesBackSpec)

/-- ITS FALSE NEIGHBOUR: 'it returns false'. Refute it at one input. -/
def aesBackWrong : ChangeSpec := { name := "aesBack", fn := fun _ => fun
  | [d1, d2] => { results := [.lit (.bool false)], args := [d1, d2] }
  | _ => none }
def AesBackWrongFalsely : Prop := aesBackRow.holds Try.pinned (OpenSpec.ofChange aesBackWrong)

/-- 'userplanelaw39.AesVector': WHATEVER THE INPUT: true; the input reads as it did. -/
def aesVectorSpec : ChangeSpec := { name := "aesVector", fn := fun _ => fun
  | [d] => { results := [.lit (.bool true)], args := [d] }
  | _ => none }
def aesVectorRow : OpenClaim := { program := "ytdgmahgidmjniaa", sum := "fd86e2ca3017331b4c88191fd57a71f120a3023c242f29f13de21adf9eb85865", func := "userplane/userplanelaw39.AesVector", spec := "aesVector", unfollowed := true, recurses := true, apart := false }
def AesVectorSaid : Prop := aesVectorRow.holds Try.pinned (OpenSpec.ofChange aesVectorSpec)

/-- ITS FALSE NEIGHBOUR: 'it returns false'. Refute it at one input. -/
def aesVectorWrong : ChangeSpec := { name := "aesVector", fn := fun _ => fun
  | [d] => { results := [.lit (.bool false)], args := [d] }
  | _ => none }
def AesVectorWrongFalsely : Prop := aesVectorRow.holds Try.pinned (OpenSpec.ofChange aesVectorWrong)

/-- 'userplanelaw40.CtrCrypts': WHATEVER THE INPUT: true; the input reads as it did. -/
def ctrCryptsSpec : ChangeSpec := { name := "ctrCrypts", fn := fun _ => fun
  | [d1, d2] => { results := [.lit (.bool true)], args := [d1, d2] }
  | _ => none }
def ctrCryptsRow : OpenClaim := { program := "ytdgmahgidmjniaa", sum := "fd86e2ca3017331b4c88191fd57a71f120a3023c242f29f13de21adf9eb85865", func := "userplane/userplanelaw40.CtrCrypts", spec := "ctrCrypts", unfollowed := true, recurses := true, apart := false }
def CtrCryptsSaid : Prop := ctrCryptsRow.holds Try.pinned (OpenSpec.ofChange ctrCryptsSpec)

/-- ITS FALSE NEIGHBOUR: 'it returns false'. Refute it at one input. -/
def ctrCryptsWrong : ChangeSpec := { name := "ctrCrypts", fn := fun _ => fun
  | [d1, d2] => { results := [.lit (.bool false)], args := [d1, d2] }
  | _ => none }
def CtrCryptsWrongFalsely : Prop := ctrCryptsRow.holds Try.pinned (OpenSpec.ofChange ctrCryptsWrong)

/-- 'userplanelaw40.CtrTwice': WHATEVER THE INPUT: true; the input reads as it did. -/
def ctrTwiceSpec : ChangeSpec := { name := "ctrTwice", fn := fun _ => fun
  | [d1, d2] => { results := [.lit (.bool true)], args := [d1, d2] }
  | _ => none }
def ctrTwiceRow : OpenClaim := { program := "ytdgmahgidmjniaa", sum := "fd86e2ca3017331b4c88191fd57a71f120a3023c242f29f13de21adf9eb85865", func := "userplane/userplanelaw40.CtrTwice", spec := "ctrTwice", unfollowed := true, recurses := true, apart := false }
def CtrTwiceSaid : Prop := ctrTwiceRow.holds Try.pinned (OpenSpec.ofChange ctrTwiceSpec)

/-- ITS FALSE NEIGHBOUR: 'it returns false'. Refute it at one input. -/
def ctrTwiceWrong : ChangeSpec := { name := "ctrTwice", fn := fun _ => fun
  | [d1, d2] => { results := [.lit (.bool false)], args := [d1, d2] }
  | _ => none }
def CtrTwiceWrongFalsely : Prop := ctrTwiceRow.holds Try.pinned (OpenSpec.ofChange ctrTwiceWrong)

/-- 'userplanelaw40.CtrSums': WHATEVER THE INPUT: true; the input reads as it did. -/
def ctrSumsSpec : ChangeSpec := { name := "ctrSums", fn := fun _ => fun
  | [d1, d2, d3] => { results := [.lit (.bool true)], args := [d1, d2, d3] }
  | _ => none }
def ctrSumsRow : OpenClaim := { program := "ytdgmahgidmjniaa", sum := "fd86e2ca3017331b4c88191fd57a71f120a3023c242f29f13de21adf9eb85865", func := "userplane/userplanelaw40.CtrSums", spec := "ctrSums", unfollowed := true, recurses := true, apart := false }
def CtrSumsSaid : Prop := ctrSumsRow.holds Try.pinned (OpenSpec.ofChange ctrSumsSpec)

/-- ITS FALSE NEIGHBOUR: 'it returns false'. Refute it at one input. -/
def ctrSumsWrong : ChangeSpec := { name := "ctrSums", fn := fun _ => fun
  | [d1, d2, d3] => { results := [.lit (.bool false)], args := [d1, d2, d3] }
  | _ => none }
def CtrSumsWrongFalsely : Prop := ctrSumsRow.holds Try.pinned (OpenSpec.ofChange ctrSumsWrong)

/-- 'userplanelaw40.CtrOwn': WHATEVER THE INPUT: true; the input reads as it did. -/
def ctrOwnSpec : ChangeSpec := { name := "ctrOwn", fn := fun _ => fun
  | [d1, d2, d3] => { results := [.lit (.bool true)], args := [d1, d2, d3] }
  | _ => none }
def ctrOwnRow : OpenClaim := { program := "ytdgmahgidmjniaa", sum := "fd86e2ca3017331b4c88191fd57a71f120a3023c242f29f13de21adf9eb85865", func := "userplane/userplanelaw40.CtrOwn", spec := "ctrOwn", unfollowed := true, recurses := true, apart := false }
def CtrOwnSaid : Prop := ctrOwnRow.holds Try.pinned (OpenSpec.ofChange ctrOwnSpec)

/-- ITS FALSE NEIGHBOUR: 'it returns false'. Refute it at one input. -/
def ctrOwnWrong : ChangeSpec := { name := "ctrOwn", fn := fun _ => fun
  | [d1, d2, d3] => { results := [.lit (.bool false)], args := [d1, d2, d3] }
  | _ => none }
def CtrOwnWrongFalsely : Prop := ctrOwnRow.holds Try.pinned (OpenSpec.ofChange ctrOwnWrong)

/-- 'userplanelaw40.CtrStreams': WHATEVER THE INPUT: true; the input reads as it did. -/
def ctrStreamsSpec : ChangeSpec := { name := "ctrStreams", fn := fun _ => fun
  | [d1, d2, d3] => { results := [.lit (.bool true)], args := [d1, d2, d3] }
  | _ => none }
def ctrStreamsRow : OpenClaim := { program := "ytdgmahgidmjniaa", sum := "fd86e2ca3017331b4c88191fd57a71f120a3023c242f29f13de21adf9eb85865", func := "userplane/userplanelaw40.CtrStreams", spec := "ctrStreams", unfollowed := true, recurses := true, apart := false }
def CtrStreamsSaid : Prop := ctrStreamsRow.holds Try.pinned (OpenSpec.ofChange ctrStreamsSpec)

/-- ITS FALSE NEIGHBOUR: 'it returns false'. Refute it at one input. -/
def ctrStreamsWrong : ChangeSpec := { name := "ctrStreams", fn := fun _ => fun
  | [d1, d2, d3] => { results := [.lit (.bool false)], args := [d1, d2, d3] }
  | _ => none }
def CtrStreamsWrongFalsely : Prop := ctrStreamsRow.holds Try.pinned (OpenSpec.ofChange ctrStreamsWrong)

/-- 'userplanelaw40.CtrApart': WHATEVER THE INPUT: true; the input reads as it did. -/
def ctrApartSpec : ChangeSpec := { name := "ctrApart", fn := fun _ => fun
  | [d1, d2, d3, d4] => { results := [.lit (.bool true)], args := [d1, d2, d3, d4] }
  | _ => none }
def ctrApartRow : OpenClaim := { program := "ytdgmahgidmjniaa", sum := "fd86e2ca3017331b4c88191fd57a71f120a3023c242f29f13de21adf9eb85865", func := "userplane/userplanelaw40.CtrApart", spec := "ctrApart", unfollowed := true, recurses := true, apart := false }
def CtrApartSaid : Prop := ctrApartRow.holds Try.pinned (OpenSpec.ofChange ctrApartSpec)

/-- ITS FALSE NEIGHBOUR: 'it returns false'. Refute it at one input. -/
def ctrApartWrong : ChangeSpec := { name := "ctrApart", fn := fun _ => fun
  | [d1, d2, d3, d4] => { results := [.lit (.bool false)], args := [d1, d2, d3, d4] }
  | _ => none }
def CtrApartWrongFalsely : Prop := ctrApartRow.holds Try.pinned (OpenSpec.ofChange ctrApartWrong)

/-- 'userplanelaw41.CmacSubkeys': WHATEVER THE INPUT: true; the input reads as it did. -/
def cmacSubkeysSpec : ChangeSpec := { name := "cmacSubkeys", fn := fun _ => fun
  | [d] => { results := [.lit (.bool true)], args := [d] }
  | _ => none }
def cmacSubkeysRow : OpenClaim := { program := "ytdgmahgidmjniaa", sum := "fd86e2ca3017331b4c88191fd57a71f120a3023c242f29f13de21adf9eb85865", func := "userplane/userplanelaw41.CmacSubkeys", spec := "cmacSubkeys", unfollowed := true, recurses := true, apart := false }
def CmacSubkeysSaid : Prop := cmacSubkeysRow.holds Try.pinned (OpenSpec.ofChange cmacSubkeysSpec)

/-- ITS FALSE NEIGHBOUR: 'it returns false'. Refute it at one input. -/
def cmacSubkeysWrong : ChangeSpec := { name := "cmacSubkeys", fn := fun _ => fun
  | [d] => { results := [.lit (.bool false)], args := [d] }
  | _ => none }
def CmacSubkeysWrongFalsely : Prop := cmacSubkeysRow.holds Try.pinned (OpenSpec.ofChange cmacSubkeysWrong)

/-- 'userplanelaw41.CmacSums': WHATEVER THE INPUT: true; the input reads as it did. -/
def cmacSumsSpec : ChangeSpec := { name := "cmacSums", fn := fun _ => fun
  | [d1, d2] => { results := [.lit (.bool true)], args := [d1, d2] }
  | _ => none }
def cmacSumsRow : OpenClaim := { program := "ytdgmahgidmjniaa", sum := "fd86e2ca3017331b4c88191fd57a71f120a3023c242f29f13de21adf9eb85865", func := "userplane/userplanelaw41.CmacSums", spec := "cmacSums", unfollowed := true, recurses := true, apart := false }
def CmacSumsSaid : Prop := cmacSumsRow.holds Try.pinned (OpenSpec.ofChange cmacSumsSpec)

/-- ITS FALSE NEIGHBOUR: 'it returns false'. Refute it at one input. -/
def cmacSumsWrong : ChangeSpec := { name := "cmacSums", fn := fun _ => fun
  | [d1, d2] => { results := [.lit (.bool false)], args := [d1, d2] }
  | _ => none }
def CmacSumsWrongFalsely : Prop := cmacSumsRow.holds Try.pinned (OpenSpec.ofChange cmacSumsWrong)

/-- 'userplanelaw41.CmacCodes': WHATEVER THE INPUT: true; the input reads as it did. -/
def cmacCodesSpec : ChangeSpec := { name := "cmacCodes", fn := fun _ => fun
  | [d1, d2] => { results := [.lit (.bool true)], args := [d1, d2] }
  | _ => none }
def cmacCodesRow : OpenClaim := { program := "ytdgmahgidmjniaa", sum := "fd86e2ca3017331b4c88191fd57a71f120a3023c242f29f13de21adf9eb85865", func := "userplane/userplanelaw41.CmacCodes", spec := "cmacCodes", unfollowed := true, recurses := true, apart := false }
def CmacCodesSaid : Prop := cmacCodesRow.holds Try.pinned (OpenSpec.ofChange cmacCodesSpec)

/-- ITS FALSE NEIGHBOUR: 'it returns false'. Refute it at one input. -/
def cmacCodesWrong : ChangeSpec := { name := "cmacCodes", fn := fun _ => fun
  | [d1, d2] => { results := [.lit (.bool false)], args := [d1, d2] }
  | _ => none }
def CmacCodesWrongFalsely : Prop := cmacCodesRow.holds Try.pinned (OpenSpec.ofChange cmacCodesWrong)

/-- 'userplanelaw41.CmacShort': WHATEVER THE INPUT: true; the input reads as it did. -/
def cmacShortSpec : ChangeSpec := { name := "cmacShort", fn := fun _ => fun
  | [d1, d2, d3] => { results := [.lit (.bool true)], args := [d1, d2, d3] }
  | _ => none }
def cmacShortRow : OpenClaim := { program := "ytdgmahgidmjniaa", sum := "fd86e2ca3017331b4c88191fd57a71f120a3023c242f29f13de21adf9eb85865", func := "userplane/userplanelaw41.CmacShort", spec := "cmacShort", unfollowed := true, recurses := true, apart := false }
def CmacShortSaid : Prop := cmacShortRow.holds Try.pinned (OpenSpec.ofChange cmacShortSpec)

/-- ITS FALSE NEIGHBOUR: 'it returns false'. Refute it at one input. -/
def cmacShortWrong : ChangeSpec := { name := "cmacShort", fn := fun _ => fun
  | [d1, d2, d3] => { results := [.lit (.bool false)], args := [d1, d2, d3] }
  | _ => none }
def CmacShortWrongFalsely : Prop := cmacShortRow.holds Try.pinned (OpenSpec.ofChange cmacShortWrong)

/-- 'userplanelaw41.CmacChains': WHATEVER THE INPUT: true; the input reads as it did. -/
def cmacChainsSpec : ChangeSpec := { name := "cmacChains", fn := fun _ => fun
  | [d1, d2] => { results := [.lit (.bool true)], args := [d1, d2] }
  | _ => none }
def cmacChainsRow : OpenClaim := { program := "ytdgmahgidmjniaa", sum := "fd86e2ca3017331b4c88191fd57a71f120a3023c242f29f13de21adf9eb85865", func := "userplane/userplanelaw41.CmacChains", spec := "cmacChains", unfollowed := true, recurses := true, apart := false }
def CmacChainsSaid : Prop := cmacChainsRow.holds Try.pinned (OpenSpec.ofChange cmacChainsSpec)

/-- ITS FALSE NEIGHBOUR: 'it returns false'. Refute it at one input. -/
def cmacChainsWrong : ChangeSpec := { name := "cmacChains", fn := fun _ => fun
  | [d1, d2] => { results := [.lit (.bool false)], args := [d1, d2] }
  | _ => none }
def CmacChainsWrongFalsely : Prop := cmacChainsRow.holds Try.pinned (OpenSpec.ofChange cmacChainsWrong)

/-- 'userplanelaw41.CmacVectors': WHATEVER THE INPUT: true; the input reads as it did. -/
def cmacVectorsSpec : ChangeSpec := { name := "cmacVectors", fn := fun _ => fun
  | [d] => { results := [.lit (.bool true)], args := [d] }
  | _ => none }
def cmacVectorsRow : OpenClaim := { program := "ytdgmahgidmjniaa", sum := "fd86e2ca3017331b4c88191fd57a71f120a3023c242f29f13de21adf9eb85865", func := "userplane/userplanelaw41.CmacVectors", spec := "cmacVectors", unfollowed := true, recurses := true, apart := false }
def CmacVectorsSaid : Prop := cmacVectorsRow.holds Try.pinned (OpenSpec.ofChange cmacVectorsSpec)

/-- ITS FALSE NEIGHBOUR: 'it returns false'. Refute it at one input. -/
def cmacVectorsWrong : ChangeSpec := { name := "cmacVectors", fn := fun _ => fun
  | [d] => { results := [.lit (.bool false)], args := [d] }
  | _ => none }
def CmacVectorsWrongFalsely : Prop := cmacVectorsRow.holds Try.pinned (OpenSpec.ofChange cmacVectorsWrong)

/-- 'userplanelaw41.CmacVerifies': WHATEVER THE INPUT: true; the input reads as it did. -/
def cmacVerifiesSpec : ChangeSpec := { name := "cmacVerifies", fn := fun _ => fun
  | [d1, d2, d3] => { results := [.lit (.bool true)], args := [d1, d2, d3] }
  | _ => none }
def cmacVerifiesRow : OpenClaim := { program := "ytdgmahgidmjniaa", sum := "fd86e2ca3017331b4c88191fd57a71f120a3023c242f29f13de21adf9eb85865", func := "userplane/userplanelaw41.CmacVerifies", spec := "cmacVerifies", unfollowed := true, recurses := true, apart := false }
def CmacVerifiesSaid : Prop := cmacVerifiesRow.holds Try.pinned (OpenSpec.ofChange cmacVerifiesSpec)

/-- ITS FALSE NEIGHBOUR: 'it returns false'. Refute it at one input. -/
def cmacVerifiesWrong : ChangeSpec := { name := "cmacVerifies", fn := fun _ => fun
  | [d1, d2, d3] => { results := [.lit (.bool false)], args := [d1, d2, d3] }
  | _ => none }
def CmacVerifiesWrongFalsely : Prop := cmacVerifiesRow.holds Try.pinned (OpenSpec.ofChange cmacVerifiesWrong)

/-- 'userplanelaw41.CmacLimits': WHATEVER THE INPUT: true; the input reads as it did. -/
def cmacLimitsSpec : ChangeSpec := { name := "cmacLimits", fn := fun _ => fun
  | [d1, d2] => { results := [.lit (.bool true)], args := [d1, d2] }
  | _ => none }
def cmacLimitsRow : OpenClaim := { program := "ytdgmahgidmjniaa", sum := "fd86e2ca3017331b4c88191fd57a71f120a3023c242f29f13de21adf9eb85865", func := "userplane/userplanelaw41.CmacLimits", spec := "cmacLimits", unfollowed := true, recurses := true, apart := false }
def CmacLimitsSaid : Prop := cmacLimitsRow.holds Try.pinned (OpenSpec.ofChange cmacLimitsSpec)

/-- ITS FALSE NEIGHBOUR: 'it returns false'. Refute it at one input. -/
def cmacLimitsWrong : ChangeSpec := { name := "cmacLimits", fn := fun _ => fun
  | [d1, d2] => { results := [.lit (.bool false)], args := [d1, d2] }
  | _ => none }
def CmacLimitsWrongFalsely : Prop := cmacLimitsRow.holds Try.pinned (OpenSpec.ofChange cmacLimitsWrong)

/- THE SECOND FORM. 'bulk': how many values and letters a reading holds, each counted each time it is reached (what is shared counts as often as it is met; a slice's spare places count too). A statement '..UptoSaid' is the law's where the arguments, and the package variables that the reading takes, are together of bulk at most 1048576: NARROWER than '..Said'. Prove '..Said' where nothing that the law and all that it calls make is longer than what came in: it says more and counts as full. Else prove '..UptoSaid'. A law counts once. -/
mutual
def uptoBulk {H : Type} : DataW H → Nat
  | .lit (.string bytes) => bytes.length + 1
  | .lit _ => 1
  | .nil => 1
  | .ptr d => uptoBulk d + 1
  | .slice elems spare => uptoBulkAll elems + uptoBulkAll spare + 1
  | .agg parts => uptoBulkAll parts + 1
  | .iface _ d => uptoBulk d + 1
  | .map entries => uptoBulkEntries entries + 1
  | .held _ => 1
def uptoBulkAll {H : Type} : List (DataW H) → Nat
  | [] => 0
  | d :: r => uptoBulk d + uptoBulkAll r
def uptoBulkEntries {H : Type} : List (Lit × DataW H) → Nat
  | [] => 0
  | x :: r => uptoBulkEntry x + uptoBulkEntries r
def uptoBulkEntry {H : Type} : Lit × DataW H → Nat
  | (.string bytes, d) => bytes.length + uptoBulk d + 1
  | (_, d) => uptoBulk d + 1
 end
def uptoSmall : (H : Type) → List (DataW H) → Bool := fun _ ds => decide (uptoBulkAll ds ≤ 1048576)
def OpenSpec.upto (s : _root_.Go.ChangeSpec) : _root_.Go.OpenSpec := { _root_.Go.OpenSpec.ofChange s with cond := some uptoSmall }

/-- 'userplanelaw40.CtrBlocks', WHERE WHAT IT READS IS OF BULK AT MOST 1048576: true; the input reads as it did. -/
def ctrBlocksUptoRow : OpenClaim := { program := "ytdgmahgidmjniaa", sum := "fd86e2ca3017331b4c88191fd57a71f120a3023c242f29f13de21adf9eb85865", func := "userplane/userplanelaw40.CtrBlocks", spec := "ctrBlocks", apart := false, narrowed := true }
def CtrBlocksUptoSaid : Prop := ctrBlocksUptoRow.holds Try.pinned (OpenSpec.upto ctrBlocksSpec)

/-- 'userplanelaw39.AesProducts', WHERE WHAT IT READS IS OF BULK AT MOST 1048576: true; the input reads as it did. -/
def aesProductsUptoRow : OpenClaim := { program := "ytdgmahgidmjniaa", sum := "fd86e2ca3017331b4c88191fd57a71f120a3023c242f29f13de21adf9eb85865", func := "userplane/userplanelaw39.AesProducts", spec := "aesProducts", unfollowed := true, recurses := true, apart := false, narrowed := true }
def AesProductsUptoSaid : Prop := aesProductsUptoRow.holds Try.pinned (OpenSpec.upto aesProductsSpec)

/-- 'userplanelaw39.AesField', WHERE WHAT IT READS IS OF BULK AT MOST 1048576: true; the input reads as it did. -/
def aesFieldUptoRow : OpenClaim := { program := "ytdgmahgidmjniaa", sum := "fd86e2ca3017331b4c88191fd57a71f120a3023c242f29f13de21adf9eb85865", func := "userplane/userplanelaw39.AesField", spec := "aesField", unfollowed := true, recurses := true, apart := false, narrowed := true }
def AesFieldUptoSaid : Prop := aesFieldUptoRow.holds Try.pinned (OpenSpec.upto aesFieldSpec)

/-- 'userplanelaw39.AesBoxes', WHERE WHAT IT READS IS OF BULK AT MOST 1048576: true; the input reads as it did. -/
def aesBoxesUptoRow : OpenClaim := { program := "ytdgmahgidmjniaa", sum := "fd86e2ca3017331b4c88191fd57a71f120a3023c242f29f13de21adf9eb85865", func := "userplane/userplanelaw39.AesBoxes", spec := "aesBoxes", unfollowed := true, recurses := true, apart := false, narrowed := true }
def AesBoxesUptoSaid : Prop := aesBoxesUptoRow.holds Try.pinned (OpenSpec.upto aesBoxesSpec)

/-- 'userplanelaw39.AesKeys', WHERE WHAT IT READS IS OF BULK AT MOST 1048576: true; the input reads as it did. -/
def aesKeysUptoRow : OpenClaim := { program := "ytdgmahgidmjniaa", sum := "fd86e2ca3017331b4c88191fd57a71f120a3023c242f29f13de21adf9eb85865", func := "userplane/userplanelaw39.AesKeys", spec := "aesKeys", unfollowed := true, recurses := true, apart := false, narrowed := true }
def AesKeysUptoSaid : Prop := aesKeysUptoRow.holds Try.pinned (OpenSpec.upto aesKeysSpec)

/-- 'userplanelaw39.AesEncrypts', WHERE WHAT IT READS IS OF BULK AT MOST 1048576: true; the input reads as it did. -/
def aesEncryptsUptoRow : OpenClaim := { program := "ytdgmahgidmjniaa", sum := "fd86e2ca3017331b4c88191fd57a71f120a3023c242f29f13de21adf9eb85865", func := "userplane/userplanelaw39.AesEncrypts", spec := "aesEncrypts", unfollowed := true, recurses := true, apart := false, narrowed := true }
def AesEncryptsUptoSaid : Prop := aesEncryptsUptoRow.holds Try.pinned (OpenSpec.upto aesEncryptsSpec)

/-- 'userplanelaw39.AesApart', WHERE WHAT IT READS IS OF BULK AT MOST 1048576: true; the input reads as it did. -/
def aesApartUptoRow : OpenClaim := { program := "ytdgmahgidmjniaa", sum := "fd86e2ca3017331b4c88191fd57a71f120a3023c242f29f13de21adf9eb85865", func := "userplane/userplanelaw39.AesApart", spec := "aesApart", unfollowed := true, recurses := true, apart := false, narrowed := true }
def AesApartUptoSaid : Prop := aesApartUptoRow.holds Try.pinned (OpenSpec.upto aesApartSpec)

/-- 'userplanelaw39.AesBack', WHERE WHAT IT READS IS OF BULK AT MOST 1048576: true; the input reads as it did. -/
def aesBackUptoRow : OpenClaim := { program := "ytdgmahgidmjniaa", sum := "fd86e2ca3017331b4c88191fd57a71f120a3023c242f29f13de21adf9eb85865", func := "userplane/userplanelaw39.AesBack", spec := "aesBack", unfollowed := true, recurses := true, apart := false, narrowed := true }
def AesBackUptoSaid : Prop := aesBackUptoRow.holds Try.pinned (OpenSpec.upto aesBackSpec)

/-- 'userplanelaw39.AesVector', WHERE WHAT IT READS IS OF BULK AT MOST 1048576: true; the input reads as it did. -/
def aesVectorUptoRow : OpenClaim := { program := "ytdgmahgidmjniaa", sum := "fd86e2ca3017331b4c88191fd57a71f120a3023c242f29f13de21adf9eb85865", func := "userplane/userplanelaw39.AesVector", spec := "aesVector", unfollowed := true, recurses := true, apart := false, narrowed := true }
def AesVectorUptoSaid : Prop := aesVectorUptoRow.holds Try.pinned (OpenSpec.upto aesVectorSpec)

/-- 'userplanelaw40.CtrCrypts', WHERE WHAT IT READS IS OF BULK AT MOST 1048576: true; the input reads as it did. -/
def ctrCryptsUptoRow : OpenClaim := { program := "ytdgmahgidmjniaa", sum := "fd86e2ca3017331b4c88191fd57a71f120a3023c242f29f13de21adf9eb85865", func := "userplane/userplanelaw40.CtrCrypts", spec := "ctrCrypts", unfollowed := true, recurses := true, apart := false, narrowed := true }
def CtrCryptsUptoSaid : Prop := ctrCryptsUptoRow.holds Try.pinned (OpenSpec.upto ctrCryptsSpec)

/-- 'userplanelaw40.CtrTwice', WHERE WHAT IT READS IS OF BULK AT MOST 1048576: true; the input reads as it did. -/
def ctrTwiceUptoRow : OpenClaim := { program := "ytdgmahgidmjniaa", sum := "fd86e2ca3017331b4c88191fd57a71f120a3023c242f29f13de21adf9eb85865", func := "userplane/userplanelaw40.CtrTwice", spec := "ctrTwice", unfollowed := true, recurses := true, apart := false, narrowed := true }
def CtrTwiceUptoSaid : Prop := ctrTwiceUptoRow.holds Try.pinned (OpenSpec.upto ctrTwiceSpec)

/-- 'userplanelaw40.CtrSums', WHERE WHAT IT READS IS OF BULK AT MOST 1048576: true; the input reads as it did. -/
def ctrSumsUptoRow : OpenClaim := { program := "ytdgmahgidmjniaa", sum := "fd86e2ca3017331b4c88191fd57a71f120a3023c242f29f13de21adf9eb85865", func := "userplane/userplanelaw40.CtrSums", spec := "ctrSums", unfollowed := true, recurses := true, apart := false, narrowed := true }
def CtrSumsUptoSaid : Prop := ctrSumsUptoRow.holds Try.pinned (OpenSpec.upto ctrSumsSpec)

/-- 'userplanelaw40.CtrOwn', WHERE WHAT IT READS IS OF BULK AT MOST 1048576: true; the input reads as it did. -/
def ctrOwnUptoRow : OpenClaim := { program := "ytdgmahgidmjniaa", sum := "fd86e2ca3017331b4c88191fd57a71f120a3023c242f29f13de21adf9eb85865", func := "userplane/userplanelaw40.CtrOwn", spec := "ctrOwn", unfollowed := true, recurses := true, apart := false, narrowed := true }
def CtrOwnUptoSaid : Prop := ctrOwnUptoRow.holds Try.pinned (OpenSpec.upto ctrOwnSpec)

/-- 'userplanelaw40.CtrStreams', WHERE WHAT IT READS IS OF BULK AT MOST 1048576: true; the input reads as it did. -/
def ctrStreamsUptoRow : OpenClaim := { program := "ytdgmahgidmjniaa", sum := "fd86e2ca3017331b4c88191fd57a71f120a3023c242f29f13de21adf9eb85865", func := "userplane/userplanelaw40.CtrStreams", spec := "ctrStreams", unfollowed := true, recurses := true, apart := false, narrowed := true }
def CtrStreamsUptoSaid : Prop := ctrStreamsUptoRow.holds Try.pinned (OpenSpec.upto ctrStreamsSpec)

/-- 'userplanelaw40.CtrApart', WHERE WHAT IT READS IS OF BULK AT MOST 1048576: true; the input reads as it did. -/
def ctrApartUptoRow : OpenClaim := { program := "ytdgmahgidmjniaa", sum := "fd86e2ca3017331b4c88191fd57a71f120a3023c242f29f13de21adf9eb85865", func := "userplane/userplanelaw40.CtrApart", spec := "ctrApart", unfollowed := true, recurses := true, apart := false, narrowed := true }
def CtrApartUptoSaid : Prop := ctrApartUptoRow.holds Try.pinned (OpenSpec.upto ctrApartSpec)

/-- 'userplanelaw41.CmacSubkeys', WHERE WHAT IT READS IS OF BULK AT MOST 1048576: true; the input reads as it did. -/
def cmacSubkeysUptoRow : OpenClaim := { program := "ytdgmahgidmjniaa", sum := "fd86e2ca3017331b4c88191fd57a71f120a3023c242f29f13de21adf9eb85865", func := "userplane/userplanelaw41.CmacSubkeys", spec := "cmacSubkeys", unfollowed := true, recurses := true, apart := false, narrowed := true }
def CmacSubkeysUptoSaid : Prop := cmacSubkeysUptoRow.holds Try.pinned (OpenSpec.upto cmacSubkeysSpec)

/-- 'userplanelaw41.CmacSums', WHERE WHAT IT READS IS OF BULK AT MOST 1048576: true; the input reads as it did. -/
def cmacSumsUptoRow : OpenClaim := { program := "ytdgmahgidmjniaa", sum := "fd86e2ca3017331b4c88191fd57a71f120a3023c242f29f13de21adf9eb85865", func := "userplane/userplanelaw41.CmacSums", spec := "cmacSums", unfollowed := true, recurses := true, apart := false, narrowed := true }
def CmacSumsUptoSaid : Prop := cmacSumsUptoRow.holds Try.pinned (OpenSpec.upto cmacSumsSpec)

/-- 'userplanelaw41.CmacCodes', WHERE WHAT IT READS IS OF BULK AT MOST 1048576: true; the input reads as it did. -/
def cmacCodesUptoRow : OpenClaim := { program := "ytdgmahgidmjniaa", sum := "fd86e2ca3017331b4c88191fd57a71f120a3023c242f29f13de21adf9eb85865", func := "userplane/userplanelaw41.CmacCodes", spec := "cmacCodes", unfollowed := true, recurses := true, apart := false, narrowed := true }
def CmacCodesUptoSaid : Prop := cmacCodesUptoRow.holds Try.pinned (OpenSpec.upto cmacCodesSpec)

/-- 'userplanelaw41.CmacShort', WHERE WHAT IT READS IS OF BULK AT MOST 1048576: true; the input reads as it did. -/
def cmacShortUptoRow : OpenClaim := { program := "ytdgmahgidmjniaa", sum := "fd86e2ca3017331b4c88191fd57a71f120a3023c242f29f13de21adf9eb85865", func := "userplane/userplanelaw41.CmacShort", spec := "cmacShort", unfollowed := true, recurses := true, apart := false, narrowed := true }
def CmacShortUptoSaid : Prop := cmacShortUptoRow.holds Try.pinned (OpenSpec.upto cmacShortSpec)

/-- 'userplanelaw41.CmacChains', WHERE WHAT IT READS IS OF BULK AT MOST 1048576: true; the input reads as it did. -/
def cmacChainsUptoRow : OpenClaim := { program := "ytdgmahgidmjniaa", sum := "fd86e2ca3017331b4c88191fd57a71f120a3023c242f29f13de21adf9eb85865", func := "userplane/userplanelaw41.CmacChains", spec := "cmacChains", unfollowed := true, recurses := true, apart := false, narrowed := true }
def CmacChainsUptoSaid : Prop := cmacChainsUptoRow.holds Try.pinned (OpenSpec.upto cmacChainsSpec)

/-- 'userplanelaw41.CmacVectors', WHERE WHAT IT READS IS OF BULK AT MOST 1048576: true; the input reads as it did. -/
def cmacVectorsUptoRow : OpenClaim := { program := "ytdgmahgidmjniaa", sum := "fd86e2ca3017331b4c88191fd57a71f120a3023c242f29f13de21adf9eb85865", func := "userplane/userplanelaw41.CmacVectors", spec := "cmacVectors", unfollowed := true, recurses := true, apart := false, narrowed := true }
def CmacVectorsUptoSaid : Prop := cmacVectorsUptoRow.holds Try.pinned (OpenSpec.upto cmacVectorsSpec)

/-- 'userplanelaw41.CmacVerifies', WHERE WHAT IT READS IS OF BULK AT MOST 1048576: true; the input reads as it did. -/
def cmacVerifiesUptoRow : OpenClaim := { program := "ytdgmahgidmjniaa", sum := "fd86e2ca3017331b4c88191fd57a71f120a3023c242f29f13de21adf9eb85865", func := "userplane/userplanelaw41.CmacVerifies", spec := "cmacVerifies", unfollowed := true, recurses := true, apart := false, narrowed := true }
def CmacVerifiesUptoSaid : Prop := cmacVerifiesUptoRow.holds Try.pinned (OpenSpec.upto cmacVerifiesSpec)

/-- 'userplanelaw41.CmacLimits', WHERE WHAT IT READS IS OF BULK AT MOST 1048576: true; the input reads as it did. -/
def cmacLimitsUptoRow : OpenClaim := { program := "ytdgmahgidmjniaa", sum := "fd86e2ca3017331b4c88191fd57a71f120a3023c242f29f13de21adf9eb85865", func := "userplane/userplanelaw41.CmacLimits", spec := "cmacLimits", unfollowed := true, recurses := true, apart := false, narrowed := true }
def CmacLimitsUptoSaid : Prop := cmacLimitsUptoRow.holds Try.pinned (OpenSpec.upto cmacLimitsSpec)

end Rows
end Go.Proofs.Ytdgmahgidmjniaa
