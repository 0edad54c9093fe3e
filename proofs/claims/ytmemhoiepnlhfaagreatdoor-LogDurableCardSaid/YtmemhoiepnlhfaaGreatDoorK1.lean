/-
  Plain laws of seals: the sum, the bytes of a number, the sector of a body. No program in sight.
-/
import Derived.KernelRfl
namespace Go.Proofs.YtmemhoiepnlhfaaGreatDoor

/-- The sum of a text. -/
def sumStep (s : Nat) (c : UInt8) : Nat := (s * 257 + c.toNat + 1) % 2147483647
def sumL (l : List UInt8) : Nat := l.foldl sumStep 0
/-- The last k bytes of a number, the most significant first. -/
def beD (n : Nat) : Nat → List UInt8
  | 0 => []
  | k + 1 => UInt8.ofNat (n / 256 ^ k) :: beD n k
def valL (l : List UInt8) : Nat := l.foldl (fun n c => n * 256 + c.toNat) 0
def putH (e p : Nat) (b : List UInt8) : List UInt8 := beD e 8 ++ beD p 4 ++ beD b.length 4 ++ b ++ List.replicate (40 - b.length) 0
/-- The sector of a body. -/
def putL (e p : Nat) (b : List UInt8) : List UInt8 := putH e p b ++ beD (sumL (putH e p b)) 8
def placed (e p : Int) : Bool := decide (0 ≤ e) && decide (e ≤ 1000000000) && decide (0 ≤ p) && decide (p < 4000)

theorem beD_len (n : Nat) : ∀ k, (beD n k).length = k
  | 0 => rfl
  | k + 1 => by simp [beD, beD_len n k]
theorem putH_len (e p : Nat) {b : List UInt8} (h : b.length ≤ 40) : (putH e p b).length = 56 := by
  simp [putH, beD_len]; omega
theorem putL_len (e p : Nat) {b : List UInt8} (h : b.length ≤ 40) : (putL e p b).length = 64 := by
  simp [putL, beD_len, putH_len e p h]
theorem val_append (l : List UInt8) (c : UInt8) : valL (l ++ [c]) = valL l * 256 + c.toNat := by simp [valL]
theorem foldl_val (l : List UInt8) : ∀ a : Nat, l.foldl (fun n c => n * 256 + c.toNat) a = a * 256 ^ l.length + valL l := by
  induction l with
  | nil => intro a; simp [valL]
  | cons c r ih =>
    intro a
    simp only [List.foldl_cons, List.length_cons, valL]
    rw [ih, ih (0 * 256 + c.toNat)]
    rw [Nat.pow_succ]
    have : (a * 256 + c.toNat) * 256 ^ r.length = a * (256 ^ r.length * 256) + c.toNat * 256 ^ r.length := by
      rw [Nat.add_mul, Nat.mul_assoc, Nat.mul_comm 256]
    rw [this]
    simp only [Nat.zero_mul, Nat.zero_add]
    omega
theorem val_cons (c : UInt8) (l : List UInt8) : valL (c :: l) = c.toNat * 256 ^ l.length + valL l := by
  show List.foldl _ (0 * 256 + c.toNat) l = _
  rw [Nat.zero_mul, Nat.zero_add]
  exact foldl_val l c.toNat
theorem val_beD (n : Nat) : ∀ k, valL (beD n k) = n % 256 ^ k
  | 0 => by simp [beD, valL, Nat.mod_one]
  | k + 1 => by
    rw [beD, val_cons, beD_len, val_beD n k]
    have e : (UInt8.ofNat (n / 256 ^ k)).toNat = n / 256 ^ k % 256 := by rw [UInt8.toNat_ofNat']
    rw [e, Nat.pow_succ, Nat.mod_mul]
    rw [Nat.mul_comm]
    omega
theorem val_fit {n k : Nat} (h : n < 256 ^ k) : valL (beD n k) = n := by rw [val_beD, Nat.mod_eq_of_lt h]
theorem sum_lt (l : List UInt8) : sumL l < 2147483647 := by
  have : ∀ (l : List UInt8) (a : Nat), a < 2147483647 → l.foldl sumStep a < 2147483647 := by
    intro l
    induction l with
    | nil => intro a h; exact h
    | cons c r ih => intro a _; exact ih _ (Nat.mod_lt _ (by decide))
  exact this l 0 (by decide)

/-- The fields of a sealed sector. -/
theorem take_putL (e p : Nat) (b : List UInt8) : (putL e p b).take 8 = beD e 8 := by
  unfold putL putH
  simp [beD_len]
theorem field_p (e p : Nat) (b : List UInt8) : ((putL e p b).drop 8).take 4 = beD p 4 := by
  unfold putL putH
  simp only [List.append_assoc]
  rw [List.drop_left' (beD_len e 8), List.take_left' (beD_len p 4)]
theorem field_n (e p : Nat) (b : List UInt8) : ((putL e p b).drop 12).take 4 = beD b.length 4 := by
  unfold putL putH
  simp only [List.append_assoc]
  rw [show 12 = 8 + 4 from rfl, ← List.drop_drop, List.drop_left' (beD_len e 8), List.drop_left' (beD_len p 4), List.take_left' (beD_len _ 4)]
theorem field_b (e p : Nat) (b : List UInt8) : ((putL e p b).drop 16).take b.length = b := by
  unfold putL putH
  simp only [List.append_assoc]
  rw [show 16 = 8 + (4 + 4) from rfl, ← List.drop_drop, ← List.drop_drop, List.drop_left' (beD_len e 8), List.drop_left' (beD_len p 4), List.drop_left' (beD_len _ 4), List.take_left' rfl]
/-- Sectors tell their bodies and places apart. -/
theorem putL_inj {e p e' p' : Nat} {b b' : List UInt8} (he : e < 256 ^ 8) (he' : e' < 256 ^ 8) (hp : p < 256 ^ 4) (hp' : p' < 256 ^ 4) (hb : b.length ≤ 40) (hb' : b'.length ≤ 40)
    (h : putL e p b = putL e' p' b') : e = e' ∧ p = p' ∧ b = b' := by
  have h1 : e = e' := by rw [← val_fit he, ← take_putL e p b, h, take_putL, val_fit he']
  have h2 : p = p' := by rw [← val_fit hp, ← field_p e p b, h, field_p, val_fit hp']
  have h3 : b.length = b'.length := by
    rw [← val_fit (show b.length < 256 ^ 4 by have : (256 : Nat) ^ 4 = 4294967296 := by decide
                                              omega), ← field_n e p b, h, field_n, val_fit (by have : (256 : Nat) ^ 4 = 4294967296 := by decide
                                                                                               omega)]
  refine ⟨h1, h2, ?_⟩
  rw [← field_b e p b, h, h3, field_b]
end Go.Proofs.YtmemhoiepnlhfaaGreatDoor
