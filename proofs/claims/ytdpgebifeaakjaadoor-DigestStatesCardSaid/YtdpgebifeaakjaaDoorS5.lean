/- The constants of SHA-256, as the program reckons them: the numbers alone. -/
import Derived.Test.YtdpgebifeaakjaaDoorS1
import Derived.Test.YtdpgebifeaakjaaDoorS3
import Derived.Test.YtdpgebifeaakjaaDoorS4
namespace Go.Proofs.YtdpgebifeaakjaaDoor
set_option linter.unusedSimpArgs false
set_option linter.unusedVariables false
open Go.RowKit

def startList : List Nat := [0x6a09e667, 0xbb67ae85, 0x3c6ef372, 0xa54ff53a, 0x510e527f, 0x9b05688c, 0x1f83d9ab, 0x5be0cd19]
def roundList : List Nat := [
  0x428a2f98, 0x71374491, 0xb5c0fbcf, 0xe9b5dba5, 0x3956c25b, 0x59f111f1, 0x923f82a4, 0xab1c5ed5,
  0xd807aa98, 0x12835b01, 0x243185be, 0x550c7dc3, 0x72be5d74, 0x80deb1fe, 0x9bdc06a7, 0xc19bf174,
  0xe49b69c1, 0xefbe4786, 0x0fc19dc6, 0x240ca1cc, 0x2de92c6f, 0x4a7484aa, 0x5cb0a9dc, 0x76f988da,
  0x983e5152, 0xa831c66d, 0xb00327c8, 0xbf597fc7, 0xc6e00bf3, 0xd5a79147, 0x06ca6351, 0x14292967,
  0x27b70a85, 0x2e1b2138, 0x4d2c6dfc, 0x53380d13, 0x650a7354, 0x766a0abb, 0x81c2c92e, 0x92722c85,
  0xa2bfe8a1, 0xa81a664b, 0xc24b8b70, 0xc76c51a3, 0xd192e819, 0xd6990624, 0xf40e3585, 0x106aa070,
  0x19a4c116, 0x1e376c08, 0x2748774c, 0x34b0bcb5, 0x391c0cb3, 0x4ed8aa4a, 0x5b9cca4f, 0x682e6ff3,
  0x748f82ee, 0x78a5636f, 0x84c87814, 0x8cc70208, 0x90befffa, 0xa4506ceb, 0xbef9a3f7, 0xc67178f2]
def startK (i : Nat) : BitVec 32 := BitVec.ofNat 32 (startList.getD i 0)
def roundK (i : Nat) : BitVec 32 := BitVec.ofNat 32 (roundList.getD i 0)

def fp (i : Nat) : Nat := floatOfInt .f64 (n64 (primeAt i))
def sqC (i : Nat) : Nat := (FloatKind.f64.format.sqrt (fp i)).getD 0
def sqG (i : Nat) : Nat := (floatBits .mul .f64 (sqC i) 4751297606875873280).getD 0
def sqX (i : Nat) : BitVec 64 := BitVec.ofInt 64 ((floatToIntVal .f64 (sqG i) .u64).getD 0)
def cuC (i : Nat) : Nat := (cbrtS (fp i)).getD 0
def cuG (i : Nat) : Nat := (floatBits .mul .f64 (cuC i) 4751297606875873280).getD 0
def cuX (i : Nat) : BitVec 64 := BitVec.ofInt 64 ((floatToIntVal .f64 (cuG i) .u64).getD 0)

theorem start_facts : ∀ i, i < 8 → FloatKind.f64.format.sqrt (fp i) = some (sqC i) ∧ floatBits .mul .f64 (sqC i) 4751297606875873280 = some (sqG i) ∧ floatToIntVal .f64 (sqG i) .u64 = some (n64 (sqX i)) ∧
    aboveB (mulHi (sqX i) (sqX i)) (sqX i * sqX i) (primeAt i) = false ∧ aboveB (mulHi (sqX i + 1#64) (sqX i + 1#64)) ((sqX i + 1#64) * (sqX i + 1#64)) (primeAt i) = true ∧ (sqX i).setWidth 32 = startK i := by decide +kernel
theorem round_facts : ∀ i, i < 64 → plainB (fp i) = true ∧ cbrtS (fp i) = some (cuC i) ∧ floatBits .mul .f64 (cuC i) 4751297606875873280 = some (cuG i) ∧ floatToIntVal .f64 (cuG i) .u64 = some (n64 (cuX i)) ∧
    aboveB (cubeHi (cuX i)) (cuX i * cuX i * cuX i) (primeAt i <<< 32) = false ∧ aboveB (cubeHi (cuX i + 1#64)) ((cuX i + 1#64) * (cuX i + 1#64) * (cuX i + 1#64)) (primeAt i <<< 32) = true ∧ (cuX i).setWidth 32 = roundK i := by decide +kernel
end Go.Proofs.YtdpgebifeaakjaaDoor
