/- Proved here: the sort of bytes, by induction on how much is to be sorted. Conditions: those of the theorem. -/
import Derived.Test.YtoeockpkkmgieaaS3
namespace Go.Proofs.Ytoeockpkkmgieaa
open Go Go.Sx
set_option linter.unusedVariables false
theorem pdq_all (N : Nat) : ∀ (da : Option Addr) (xs : List Int) (dc : Nat) (dn : Nat) (aI : Int) (a : Nat) (bI : Int) (b : Nat) (limit : Int) (w : World) (hp : Hp w [rowT (tyI .u8) (.slice da dn dc) 5 xs]) (e_a : aI = ((a : Nat) : Int)) (e_b : bI = ((b : Nat) : Int)) (hab : a ≤ b ∧ b ≤ xs.length ∧ xs.length ≤ 1000000) (hB : Go.Sort.Below Go.Sort.ltInt a b xs.toArray) (hlim : 0 ≤ limit ∧ limit ≤ 100) (hlt : b - a < N), Calls Try.prog 103 #[.slice da dn dc, .int .i64 aI, .int .i64 bI, .int .i64 limit] w (Ret fun v w' => ∃ zs : List Int, v = .tuple #[] ∧ Upd w [rowT (tyI .u8) (.slice da dn dc) 5 xs] w' [rowT (tyI .u8) (.slice da dn dc) 5 zs] ∧ (Go.Sort.PermIn a b xs.toArray zs.toArray ∧ Go.Sort.SortedIn Go.Sort.ltInt a b zs.toArray)) := by
  induction N with
  | zero => intro da xs dc dn aI a bI b limit w hp e_a e_b hab hB hlim hlt; omega
  | succ N ih => intro da xs dc dn aI a bI b limit w hp e_a e_b hab hB hlim hlt; exact pdq_step da xs dc dn aI a bI b limit N w hp e_a e_b hab hB hlim hlt ih
theorem pdq_any (da : Option Addr) (xs : List Int) (dc : Nat) (dn : Nat) (aI : Int) (a : Nat) (bI : Int) (b : Nat) (limit : Int) (w : World) (hp : Hp w [rowT (tyI .u8) (.slice da dn dc) 5 xs]) (e_a : aI = ((a : Nat) : Int)) (e_b : bI = ((b : Nat) : Int)) (hab : a ≤ b ∧ b ≤ xs.length ∧ xs.length ≤ 1000000) (hB : Go.Sort.Below Go.Sort.ltInt a b xs.toArray) (hlim : 0 ≤ limit ∧ limit ≤ 100) :
    Calls Try.prog 103 #[.slice da dn dc, .int .i64 aI, .int .i64 bI, .int .i64 limit] w (Ret fun v w' => ∃ zs : List Int, v = .tuple #[] ∧ Upd w [rowT (tyI .u8) (.slice da dn dc) 5 xs] w' [rowT (tyI .u8) (.slice da dn dc) 5 zs] ∧ (Go.Sort.PermIn a b xs.toArray zs.toArray ∧ Go.Sort.SortedIn Go.Sort.ltInt a b zs.toArray)) := pdq_all (b - a + 1) da xs dc dn aI a bI b limit w hp e_a e_b hab hB hlim (by omega)
end Go.Proofs.Ytoeockpkkmgieaa
