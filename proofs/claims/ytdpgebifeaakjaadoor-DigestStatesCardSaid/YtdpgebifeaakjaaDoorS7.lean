/- The compression function of SHA-256: what it computes, and small walks. -/
import Derived.Test.YtdpgebifeaakjaaDoorS5
import Derived.Test.YtdpgebifeaakjaaDoorK2
namespace Go.Proofs.YtdpgebifeaakjaaDoor
set_option linter.unusedSimpArgs false
set_option linter.unusedVariables false
open Go.RowKit

def rotK (k : Int) : BitVec 64 := BitVec.ofInt 64 k &&& 31#64
/-- RotateLeft32, as the code has it. -/
def rotS (x : BitVec 32) (k : Int) : BitVec 32 := x <<< (n64 (rotK k)).toNat ||| x >>> (n64 (32#64 - rotK k)).toNat
set_option maxHeartbeats 400000 in
theorem rot_any (x : BitVec 32) (k : Int) (w : World) :
    Calls Tryd.prog 129 #[U32 x, .int .i64 k] w fun e w' => e = .returned (U32 (rotS x k)) ∧ w = w' := by
  go_enter Tryd.func129, Tryd.ntmps129
  go_wp2_with fail
  go_ret
  exact ⟨rfl, rfl⟩

/-- The words of a block, one by one. -/
def wordAt (s : List (BitVec 8)) (t : Nat) : BitVec 32 :=
  (s.getD (4 * t) 0#8).setWidth 32 <<< 24 ||| (s.getD (4 * t + 1) 0#8).setWidth 32 <<< 16 ||| (s.getD (4 * t + 2) 0#8).setWidth 32 <<< 8 ||| (s.getD (4 * t + 3) 0#8).setWidth 32
def sig0 (x : BitVec 32) : BitVec 32 := rotS x (-7) ^^^ rotS x (-18) ^^^ x >>> 3
def sig1 (x : BitVec 32) : BitVec 32 := rotS x (-17) ^^^ rotS x (-19) ^^^ x >>> 10
def wNew (s : List (BitVec 8)) (f : Nat → BitVec 32) (t : Nat) : BitVec 32 :=
  if t < 16 then wordAt s t else f (t - 16) + sig0 (f (t - 15)) + f (t - 7) + sig1 (f (t - 2))
def sched (s : List (BitVec 8)) : Nat → Nat → BitVec 32
  | 0 => fun _ => 0#32
  | t + 1 => fun i => if i = t then wNew s (sched s t) t else sched s t i
/-- One round. -/
def shaX (k w : BitVec 32) (v : Nat → BitVec 32) : BitVec 32 :=
  v 7 + (rotS (v 4) (-6) ^^^ rotS (v 4) (-11) ^^^ rotS (v 4) (-25)) + (v 4 &&& v 5 ^^^ ~~~v 4 &&& v 6) + k + w
def shaY (v : Nat → BitVec 32) : BitVec 32 :=
  (rotS (v 0) (-2) ^^^ rotS (v 0) (-13) ^^^ rotS (v 0) (-22)) + (v 0 &&& v 1 ^^^ v 0 &&& v 2 ^^^ v 1 &&& v 2)
def shaRound (k w : BitVec 32) (v : Nat → BitVec 32) (i : Nat) : BitVec 32 :=
  match i with
  | 0 => shaX k w v + shaY v
  | 4 => v 3 + shaX k w v
  | j + 1 => v j
def shaRounds (k w : Nat → BitVec 32) : Nat → (Nat → BitVec 32) → (Nat → BitVec 32)
  | 0, v => v
  | t + 1, v => shaRound (k t) (w t) (shaRounds k w t v)
/-- A block processed. -/
def shaBlock (k h : Nat → BitVec 32) (s : List (BitVec 8)) (i : Nat) : BitVec 32 := h i + shaRounds k (sched s 64) 64 h i

/-- The cells of a hasher. -/
def hasherC (h : Nat → BitVec 32) (rest : ByteArray) (len : Int) (k : Nat → BitVec 32) : Array Value :=
  Row 74 fun i => if i < 8 then U32 (h i) else if i = 8 then .string rest else if i = 9 then .int .i64 len else U32 (k (i - 10))

theorem hasherC_set (h : Nat → BitVec 32) (rest : ByteArray) (len : Int) (k : Nat → BitVec 32) (j : Nat) (hj : j < 8) (x : BitVec 32) :
    (hasherC h rest len k).setIfInBounds j (U32 x) = hasherC (fun i => if i = j then x else h i) rest len k := by
  unfold hasherC
  rw [Row.set]
  apply Row.ext
  intro i _
  try dsimp only
  by_cases e : i = j
  · subst e; rw [if_pos rfl, if_pos hj, if_pos rfl]
  · rw [if_neg e, if_neg e]
theorem hasherC_ext {h h' : Nat → BitVec 32} (rest : ByteArray) (len : Int) (k : Nat → BitVec 32) (e : ∀ i, i < 8 → h i = h' i) : hasherC h rest len k = hasherC h' rest len k := by
  apply Row.ext
  intro i _
  try dsimp only
  by_cases hi : i < 8
  · rw [if_pos hi, if_pos hi, e i hi]
  · rw [if_neg hi, if_neg hi]
theorem hasherC_word (h : Nat → BitVec 32) (rest : ByteArray) (len : Int) (k : Nat → BitVec 32) (j : Nat) (hj : j < 8) : (hasherC h rest len k)[j]? = some (U32 (h j)) := by
  rw [hasherC, Row.get _ (by omega), if_pos hj]
theorem hasherC_rest (h : Nat → BitVec 32) (rest : ByteArray) (len : Int) (k : Nat → BitVec 32) : (hasherC h rest len k)[8]? = some (.string rest) := by
  rw [hasherC, Row.get _ (by omega), if_neg (by omega), if_pos rfl]
theorem hasherC_len (h : Nat → BitVec 32) (rest : ByteArray) (len : Int) (k : Nat → BitVec 32) : (hasherC h rest len k)[9]? = some (.int .i64 len) := by
  rw [hasherC, Row.get _ (by omega), if_neg (by omega), if_neg (by omega), if_pos rfl]
theorem hasherC_setRest (h : Nat → BitVec 32) (rest r : ByteArray) (len : Int) (k : Nat → BitVec 32) : (hasherC h rest len k).setIfInBounds 8 (.string r) = hasherC h r len k := by
  unfold hasherC
  rw [Row.set]
  apply Row.ext
  intro i _
  try dsimp only
  by_cases e : i = 8
  · subst e; rw [if_pos rfl, if_neg (by omega), if_pos rfl]
  · rw [if_neg e, if_neg e, if_neg e]
theorem hasherC_setLen (h : Nat → BitVec 32) (rest : ByteArray) (len l : Int) (k : Nat → BitVec 32) : (hasherC h rest len k).setIfInBounds 9 (.int .i64 l) = hasherC h rest l k := by
  unfold hasherC
  rw [Row.set]
  apply Row.ext
  intro i _
  try dsimp only
  by_cases e : i = 9
  · subst e; rw [if_pos rfl, if_neg (by omega), if_neg (by omega), if_pos rfl]
  · rw [if_neg e, if_neg e, if_neg e]
end Go.Proofs.YtdpgebifeaakjaaDoor
