/-
  seal's read, walked. Its condition: the bytes of a slice.
-/
import Derived.Test.YtmemhoiepnlhfaaGreatDoorJ1
namespace Go.Proofs.YtmemhoiepnlhfaaGreatDoor
open Go.RowKit
set_option maxRecDepth 100000

def readGo (acc : Nat) : List UInt8 → Option Nat
  | [] => some acc
  | c :: r => if 16777216 ≤ acc then none else readGo (acc * 256 + c.toNat) r
def readV (l : List UInt8) : Value := match readGo 0 l with | some n => .tuple #[.int .i64 (n : Int), .bool true] | none => .tuple #[.int .i64 0, .bool false]

theorem or_byte (a b : Nat) (ha : a < 16777216) (hb : b < 256) : bits .or .i64 ((a : Int) * 256) (b : Int) = ((a * 256 + b : Nat) : Int) := by
  have e0 : (a : Int) * 256 = ((a * 256 : Nat) : Int) := by omega
  have h1 : (BitVec.ofInt 64 ((a * 256 : Nat) : Int)).toNat = a * 256 := by
    rw [BitVec.ofInt_natCast, BitVec.toNat_ofNat]; exact Nat.mod_eq_of_lt (by omega)
  have h2 : (BitVec.ofInt 64 (b : Int)).toNat = b := by
    rw [BitVec.ofInt_natCast, BitVec.toNat_ofNat]; exact Nat.mod_eq_of_lt (by omega)
  have h3 : a * 256 ||| b = a * 256 + b := by
    have := Nat.shiftLeft_add_eq_or_of_lt (show b < 2 ^ 8 by omega) a
    rw [Nat.shiftLeft_eq] at this
    exact this.symm
  rw [e0]
  show IntKind.i64.wrap ((BitVec.ofInt 64 ((a * 256 : Nat) : Int) ||| BitVec.ofInt 64 (b : Int)).toNat : Int) = _
  rw [BitVec.toNat_or, h1, h2, h3, IntKind.wrap_i64]
  omega

set_option maxHeartbeats 800000 in
theorem sread_any (l : List UInt8) (hl : l.length ≤ 64) (k off cap : Nat) (w : World) (hc : ∀ i c, l[i]? = some c → w.cell? ⟨k, off + i, none⟩ = some (.int .u8 (c.toNat : Int))) :
    Calls Tryz.prog 56 #[.slice (some ⟨k, off, none⟩) l.length cap] w fun e w' => e = .returned (readV l) ∧ w = w' := by
  have HC := Lib.hid hc
  have E : Hid (readV l = match readGo 0 l with | some n => .tuple #[.int .i64 (n : Int), .bool true] | none => .tuple #[.int .i64 0, .bool false]) := Lib.hid rfl
  obtain ⟨r, hr⟩ : ∃ r, readV l = r := ⟨_, rfl⟩
  rw [hr] at E ⊢
  obtain ⟨n, hn⟩ : ∃ n, l.length = n := ⟨_, rfl⟩
  rw [hn] at hl ⊢
  have HN := Lib.hid hn
  clear hr hn hc
  go_enter Tryz.func56, Tryz.ntmps56
  go_wp2_with fail
  go_loop [4, 9] (fun v i => ∃ j acc : Nat, v = .int .i64 acc ∧ i = .int .i64 j ∧ j ≤ n ∧ acc < 4294967296 ∧ Hid (readGo acc (l.drop j) = readGo 0 l)) (fun _ i => n - (intOf i).toNat)
  case atStart => exact ⟨0, 0, rfl, rfl, Nat.zero_le _, by decide, Lib.hid rfl⟩
  case round =>
    obtain ⟨j, acc, rfl, rfl, hj, ha, HG⟩ := hrel
    by_cases hlt : j < n
    · obtain ⟨c, hcj⟩ : ∃ c, l[j]? = some c := ⟨_, List.getElem?_eq_getElem (by rw [HN.out]; exact hlt)⟩
      have c0 := HC.out j c hcj
      have hg : Hid (readGo 0 l = if 16777216 ≤ acc then none else readGo (acc * 256 + c.toNat) (l.drop (j + 1))) := Lib.hid (by
        rw [← HG.out, List.drop_eq_getElem_cons (by rw [HN.out]; exact hlt)]
        rw [List.getElem?_eq_some_iff] at hcj
        rw [hcj.2]
        rfl)
      have hc8 : c.toNat < 256 := c.toNat_lt
      clear hcj HG
      by_cases big : 16777216 ≤ acc
      · have e0 := Lib.hid (show r = .tuple #[.int .i64 0, .bool false] by rw [E.out, hg.out, if_pos big])
        have bi : (16777216 : Int) ≤ (acc : Int) := by omega
        clear hg
        go_wp2_with fail
        go_ret2
        exact ⟨by rw [e0.out]; rfl, rfl⟩
      · have h2 := Lib.hid (hg.out.trans (if_neg big))
        have bi : ¬ (16777216 : Int) ≤ (acc : Int) := by omega
        clear hg
        generalize c.toNat = b at *
        have hor := or_byte acc b (by omega) hc8
        go_wp2_with fail
        refine ⟨⟨j + 1, acc * 256 + b, rfl, by simp, by omega, by omega, Lib.hid h2.out.symm⟩, ?_⟩
        show n - ((j : Int) + 1).toNat < n - (j : Int).toNat
        omega
    · have e0 := Lib.hid (show r = .tuple #[.int .i64 (acc : Int), .bool true] by
        rw [E.out, ← HG.out, List.drop_of_length_le (by rw [HN.out]; omega)]; rfl)
      go_wp2_with fail
      go_ret2
      exact ⟨by rw [e0.out]; rfl, rfl⟩
end Go.Proofs.YtmemhoiepnlhfaaGreatDoor
