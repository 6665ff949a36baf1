/- Plain facts on the sum (CRC-32C): nothing of the program. -/
namespace Go.Proofs.Ytjbejaieihchmaa

def crcBit (r : Nat) : Nat := if r % 2 = 1 then (r / 2) ^^^ 2197175160 else r / 2
def crcBits : Nat → Nat → Nat
  | 0, r => r
  | k + 1, r => crcBits k (crcBit r)
def crcReg (r : Nat) (bs : List UInt8) : Nat := bs.foldl (fun r b => crcBits 8 (r ^^^ b.toNat)) r
def crcMore (s : Nat) (bs : List UInt8) : Nat := 4294967295 - crcReg (4294967295 - s) bs
def crcSum (bs : List UInt8) : Nat := crcMore 0 bs

theorem crcBit_lt {r : Nat} (h : r < 4294967296) : crcBit r < 4294967296 := by
  unfold crcBit
  split
  · exact Nat.xor_lt_two_pow (n := 32) (by omega) (by omega)
  · omega
theorem crcBits_lt {k r : Nat} (h : r < 4294967296) : crcBits k r < 4294967296 := by
  induction k generalizing r with
  | zero => exact h
  | succ k ih => exact ih (crcBit_lt h)
theorem crcBits_snoc (k r : Nat) : crcBits (k + 1) r = crcBit (crcBits k r) := by
  induction k generalizing r with
  | zero => rfl
  | succ k ih => rw [crcBits, ih, crcBits]
theorem byte_lt (b : UInt8) : b.toNat < 4294967296 := Nat.lt_trans b.toNat_lt (by omega)
theorem crcReg_lt {r : Nat} (bs : List UInt8) (h : r < 4294967296) : crcReg r bs < 4294967296 := by
  induction bs generalizing r with
  | nil => exact h
  | cons b l ih => exact ih (crcBits_lt (Nat.xor_lt_two_pow (n := 32) h (byte_lt b)))
theorem crcReg_append (r : Nat) (a b : List UInt8) : crcReg r (a ++ b) = crcReg (crcReg r a) b := by simp [crcReg]
theorem crcReg_snoc (r : Nat) (a : List UInt8) (b : UInt8) : crcReg r (a ++ [b]) = crcBits 8 (crcReg r a ^^^ b.toNat) := by simp [crcReg]
theorem crcMore_lt (s : Nat) (bs : List UInt8) : crcMore s bs < 4294967296 := by unfold crcMore; omega
theorem crcSum_lt (bs : List UInt8) : crcSum bs < 4294967296 := crcMore_lt 0 bs
theorem crcMore_sum (a b : List UInt8) : crcMore (crcSum a) b = crcSum (a ++ b) := by
  unfold crcSum crcMore
  rw [crcReg_append]
  have := crcReg_lt (r := 4294967295 - 0) a (by omega)
  congr 2
  omega
end Go.Proofs.Ytjbejaieihchmaa
