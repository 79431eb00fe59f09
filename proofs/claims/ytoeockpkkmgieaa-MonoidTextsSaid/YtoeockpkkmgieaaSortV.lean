/- Small facts for the sort's walks: widths, masks, blocks apart. Conditions: those of each theorem. -/
import Derived.Test.YtoeockpkkmgieaaSortU
import Derived.Test.YtoeockpkkmgieaaL2
import Derived.Lib.ItoaNum
namespace Go.Proofs.Ytoeockpkkmgieaa
open Go Go.Sx
set_option linter.unusedVariables false
set_option linter.unusedSimpArgs false
theorem len_any (x : Int) (w : World) (h0 : 0 ≤ x) (h1 : x ≤ 18446744073709551615) : Calls Try.prog 101 #[.int .u64 x] w (Ret fun v w' => v = .int .i64 ((Lib.bitLen x.toNat : Nat) : Int) ∧ Upd w [] w' []) := by
  refine (Try.bits_Len x w h0 h1).mono ?_
  rintro e w' ⟨rfl, rfl⟩
  exact ⟨_, rfl, rfl, Upd.nil _⟩
theorem pow_bd {n : Int} (h : 1 ≤ n) (h2 : n ≤ 1000000000) : n < IntKind.u64.wrap (1 * 2 ^ (min ((Lib.bitLen n.toNat : Nat) : Int).toNat 64)) ∧ IntKind.u64.wrap (1 * 2 ^ (min ((Lib.bitLen n.toNat : Nat) : Int).toNat 64)) ≤ 2 * n := by
  have hb := Lib.bitLenAux_bounds 64 n.toNat (by omega) (by omega)
  have hk : Lib.bitLen n.toNat = Lib.bitLenAux 64 n.toNat := rfl
  rw [hk]
  generalize hg : Lib.bitLenAux 64 n.toNat = k at hb
  have hk31 : k ≤ 31 := by
    rcases Nat.lt_or_ge 31 k with h3 | h3
    · have : 2 ^ 31 ≤ 2 ^ (k - 1) := Nat.pow_le_pow_right (by omega) (by omega)
      omega
    · exact h3
  have e1 : min ((k : Nat) : Int).toNat 64 = k := by omega
  have e2 : (2 : Nat) ^ k = 2 * 2 ^ (k - 1) := by
    conv => lhs; rw [show k = (k - 1) + 1 by omega, Nat.pow_succ]
    omega
  have e3 : (2 : Nat) ^ k ≤ 2 ^ 31 := Nat.pow_le_pow_right (by omega) hk31
  have e4 : (1 : Int) * 2 ^ k = ((2 ^ k : Nat) : Int) := by rw [Int.one_mul]; simp
  rw [e1, e4]
  have e5 : IntKind.u64.wrap ((2 ^ k : Nat) : Int) = ((2 ^ k : Nat) : Int) := by
    show ((2 ^ k : Nat) : Int) % (2 ^ 64 : Int) = _
    have h64 : (2 ^ 64 : Int) = 18446744073709551616 := by decide
    rw [h64]
    have : (2 : Nat) ^ 31 = 2147483648 := by decide
    omega
  rw [e5]
  omega
theorem len_le (n : Nat) (h : n ≤ 1000000) : Lib.bitLen n ≤ 64 := by
  have hk : Lib.bitLen n = Lib.bitLenAux 64 n := rfl
  rw [hk]
  rcases Nat.eq_zero_or_pos n with h0 | h0
  · subst h0; rw [Lib.bitLenAux_zero]; omega
  · have hb := Lib.bitLenAux_bounds 64 n (by omega) (by omega)
    generalize Lib.bitLenAux 64 n = k at hb
    rcases Nat.lt_or_ge 64 k with h3 | h3
    · have : 2 ^ 64 ≤ 2 ^ (k - 1) := Nat.pow_le_pow_right (by omega) (by omega)
      omega
    · exact h3
theorem sub1_u64 {m : Int} (h : 1 ≤ m) (h2 : m ≤ 18446744073709551615) : IntKind.u64.wrap (m - 1) = m - 1 := by
  show (m - 1) % (2 ^ 64 : Int) = _
  have h64 : (2 ^ 64 : Int) = 18446744073709551616 := by decide
  rw [h64]; omega
theorem and_bd {x m : Int} (h : 0 ≤ m) (h2 : m ≤ 18446744073709551615) : 0 ≤ bitsOf .and .u64 x m ∧ bitsOf .and .u64 x m ≤ m := by
  show 0 ≤ IntKind.u64.wrap ((BitVec.ofInt 64 x &&& BitVec.ofInt 64 m).toNat : Int) ∧ IntKind.u64.wrap ((BitVec.ofInt 64 x &&& BitVec.ofInt 64 m).toNat : Int) ≤ m
  have e1 : (BitVec.ofInt 64 m).toNat = m.toNat := by
    rw [BitVec.toNat_ofInt]
    have h64 : ((2 ^ 64 : Nat) : Int) = 18446744073709551616 := by decide
    rw [h64]; omega
  have e2 : (BitVec.ofInt 64 x &&& BitVec.ofInt 64 m).toNat ≤ m.toNat := by
    rw [BitVec.toNat_and, e1]; exact Nat.and_le_right
  generalize (BitVec.ofInt 64 x &&& BitVec.ofInt 64 m).toNat = q at e2
  show 0 ≤ ((q : Int)) % (2 ^ 64 : Int) ∧ ((q : Int)) % (2 ^ 64 : Int) ≤ m
  have h64 : (2 ^ 64 : Int) = 18446744073709551616 := by decide
  rw [h64]; omega
theorem sep_new {α : Type} {T : Ty α} {w : World} {v : Value} {xs : List α} {g : Nat} (h : RdT T w v xs) (hx : 0 < xs.length) (hg : w.heap.size ≤ g) : ∀ g', Value.blk? v = some g' → g' ≠ g := by
  obtain ⟨A, cap, rfl, h1, h2, h3⟩ := h
  intro g' hg'
  cases A with
  | none => simp [Value.blk?] at hg'
  | some ad =>
    simp [Value.blk?] at hg'
    subst hg'
    have hp := T.pos
    have hl : 0 < (T.all xs).length := by rw [T.all_length]; exact Nat.mul_pos hx hp
    obtain ⟨ad', e, hc⟩ := h3 0 (T.all xs)[0] (List.getElem?_eq_getElem hl)
    cases e
    have := World.block_lt_of_cell? w _ hc
    rw [add_block] at this
    omega
end Go.Proofs.Ytoeockpkkmgieaa
