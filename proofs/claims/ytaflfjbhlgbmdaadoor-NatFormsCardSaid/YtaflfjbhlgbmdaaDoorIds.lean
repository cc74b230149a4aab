/- The numbers of the functions, under names. No condition. -/
import Derived.Test.YtaflfjbhlgbmdaaDoorProg
namespace Go.Proofs.YtaflfjbhlgbmdaaDoor
open Go
noncomputable abbrev pr : Program := Tryd.prog
abbrev surdlaw01_NatForms_id : Nat := 3
abbrev surdref01_Lend_id : Nat := 4
abbrev surdref01_Of_id : Nat := 5
abbrev nat_Norm_id : Nat := 6
abbrev surdref01_Num_Is_id : Nat := 7
abbrev surdref01_Own_id : Nat := 8
abbrev surdref01_Kept_id : Nat := 9
abbrev nat_Compare_id : Nat := 10
abbrev surdref01_Cmp_id : Nat := 11
abbrev nat_Length_id : Nat := 12
abbrev surdref01_Num_Len_id : Nat := 13
abbrev nat_Bit_id : Nat := 14
abbrev surdref01_Num_Bit_id : Nat := 15
abbrev nat_Tail_id : Nat := 16
abbrev surdref01_Num_Tail_id : Nat := 17
abbrev nat_Count_id : Nat := 18
abbrev surdref01_Num_Count_id : Nat := 19
abbrev nat_Small_id : Nat := 20
abbrev nat_From_id : Nat := 21
abbrev surdlaw01_lives_id : Nat := 22
abbrev surdref01_norm_id : Nat := 23
abbrev nat_trim_id : Nat := 24
abbrev surdref01_Num_Limbs_id : Nat := 25
abbrev bits_Len64_id : Nat := 26
abbrev bits_TrailingZeros64_id : Nat := 27
abbrev bits_OnesCount64_id : Nat := 28
abbrev nat_Add_id : Nat := 29
abbrev nat_Sub_id : Nat := 30
abbrev bits_Add64_id : Nat := 31
abbrev nat_told_id : Nat := 32
abbrev bits_Sub64_id : Nat := 33
abbrev api_Errno_Error_id : Nat := 49
-- type abi.BoundsErrorCode = 6
-- type runtime.boundsError = 8
-- type runtime.errorString = 10
-- type runtime.plainError = 11
-- type runtime.errorAddressString = 14
-- type maps.unhashableTypeError = 19
-- type api.Nat = 23
-- type surdref01.Num = 26
-- type api.Errno = 49
-- type runtime.TypeAssertionError = 58
-- type runtime.PanicNilError = 61
-- type abi.TFlag = 63
-- type abi.Kind = 64
-- type abi.NameOff = 67
-- type abi.TypeOff = 68
-- type abi.Type = 70
abbrev tU64 : TypeId := 38
abbrev tInt : TypeId := 3
abbrev tU64s : TypeId := 22
end Go.Proofs.YtaflfjbhlgbmdaaDoor
