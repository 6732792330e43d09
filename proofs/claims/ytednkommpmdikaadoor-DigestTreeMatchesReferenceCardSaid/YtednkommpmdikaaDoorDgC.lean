/- The fixed examples, plain. -/
import Derived.Test.YtednkommpmdikaaDoorVerC
import Derived.Test.YtednkommpmdikaaDoorDgB
namespace Go.Proofs.YtednkommpmdikaaDoor

set_option maxRecDepth 100000 in
theorem hex_empty : hexL (shaL []) = [101, 51, 98, 48, 99, 52, 52, 50, 57, 56, 102, 99, 49, 99, 49, 52, 57, 97, 102, 98, 102, 52, 99, 56, 57, 57, 54, 102, 98, 57, 50, 52, 50, 55, 97, 101, 52, 49, 101, 52, 54, 52, 57, 98, 57, 51, 52, 99, 97, 52, 57, 53, 57, 57, 49, 98, 55, 56, 53, 50, 98, 56, 53, 53] := by decide +kernel
set_option maxRecDepth 100000 in
theorem hex_abc : hexL (shaL [97, 98, 99]) = [98, 97, 55, 56, 49, 54, 98, 102, 56, 102, 48, 49, 99, 102, 101, 97, 52, 49, 52, 49, 52, 48, 100, 101, 53, 100, 97, 101, 50, 50, 50, 51, 98, 48, 48, 51, 54, 49, 97, 51, 57, 54, 49, 55, 55, 97, 57, 99, 98, 52, 49, 48, 102, 102, 54, 49, 102, 50, 48, 48, 49, 53, 97, 100] := by decide +kernel

def abc : List (List UInt8) := [[97], [98], [99]]
theorem abc_proof_len : (proofL abc 2).length = 1 := by decide +kernel
theorem abc_ext_len : (extL abc 1).length = 2 := by decide +kernel
set_option maxRecDepth 100000 in
theorem abc_ver : verB (rootL abc) 3 2 [99] (proofL abc 2) = true := by decide +kernel
set_option maxRecDepth 100000 in
theorem abc_ver_not : verB (rootL abc) 3 2 [100] (proofL abc 2) = false := by decide +kernel
set_option maxRecDepth 100000 in
theorem abc_ext : extB (rootL [[97]]) 1 (rootL abc) 3 (extL abc 1) = true := by decide +kernel
set_option maxRecDepth 100000 in
theorem abc_ext_not : extB (rootL [[97], [98]]) 1 (rootL abc) 3 (extL abc 1) = false := by decide +kernel
end Go.Proofs.YtednkommpmdikaaDoor
