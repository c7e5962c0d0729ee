/- Layer 47 (date): what octets read as, in plain words. No condition. -/
import Derived.Test.Ytjiofcnlibkhkaa28G
import Derived.Test.Ytjiofcnlibkhkaa47R
namespace Go.Proofs.Ytjiofcnlibkhkaa
open Go.RowKit

/-- the octets of some kinds that stand behind a gap -/
def runP (xs : List Int) (kv : Int) (k : Nat) : List Int := (xs.drop (gapL xs k)).takeWhile fun x => isL x kv
def runE (xs : List Int) (kv : Int) (k : Nat) : Nat := gapL xs k + (runP xs kv k).length
def numV (l : List Int) : Int := l.foldl (fun n c => 10 * n + (c - 48)) 0
def numS (xs : List Int) (least most : Nat) (k : Nat) : Option (Int × Nat) :=
  if least ≤ (runP xs 8 k).length ∧ (runP xs 8 k).length ≤ most then some (numV (runP xs 8 k), runE xs 8 k) else none
def dayW : List (List Int) := [[115, 117, 110], [109, 111, 110], [116, 117, 101], [119, 101, 100], [116, 104, 117], [102, 114, 105], [115, 97, 116]]
def monW : List (List Int) := [[106, 97, 110], [102, 101, 98], [109, 97, 114], [97, 112, 114], [109, 97, 121], [106, 117, 110], [106, 117, 108], [97, 117, 103], [115, 101, 112], [111, 99, 116], [110, 111, 118], [100, 101, 99]]
/-- the place of a name among names; -1: it is none -/
def idxW : List (List Int) → List Int → Int → Int
  | [], _, _ => -1
  | y :: r, x, i => if x = y then i else idxW r x (i + 1)
def hoursS (xs : List Int) (sg : Int) (k : Nat) : Option (Int × Nat) :=
  if gapL xs k = k then
    match numS xs 4 4 k with
    | some (n, a) => if n % 100 < 60 then some (sg * (n / 100 * 60 + n % 100), a) else none
    | none => none
  else none
theorem runP_len (xs : List Int) (kv : Int) (k : Nat) : (runP xs kv k).length ≤ xs.length - gapL xs k := by
  unfold runP
  refine Nat.le_trans (List.takeWhile_sublist _).length_le ?_
  rw [List.length_drop]; exact Nat.le_refl _
theorem runE_le {xs : List Int} {kv : Int} {k : Nat} (h : k ≤ xs.length) : gapL xs k ≤ runE xs kv k ∧ runE xs kv k ≤ xs.length := by
  have h1 := runP_len xs kv k
  have h2 := gapL_bd h
  unfold runE
  omega
theorem numV_snoc (l : List Int) (c : Int) : numV (l ++ [c]) = 10 * numV l + (c - 48) := by simp [numV, List.foldl_append]
theorem numV_rev (l : List Int) (h : ∀ c ∈ l, 48 ≤ c ∧ c ≤ 57) : 0 ≤ numV l.reverse ∧ numV l.reverse < 10 ^ l.length := by
  induction l with
  | nil => exact ⟨Int.le_refl _, by decide⟩
  | cons c l ih =>
    have h1 := ih (fun x hx => h x (List.mem_cons_of_mem _ hx))
    have h2 := h c (List.mem_cons_self ..)
    rw [List.reverse_cons, numV_snoc, List.length_cons, Int.pow_succ]
    omega
/-- digits: a number of so many has so many places -/
theorem numV_rng (l : List Int) (h : ∀ c ∈ l, 48 ≤ c ∧ c ≤ 57) : 0 ≤ numV l ∧ numV l < 10 ^ l.length := by
  have := numV_rev l.reverse (fun c hc => h c (List.mem_reverse.1 hc))
  rwa [List.reverse_reverse, List.length_reverse] at this
end Go.Proofs.Ytjiofcnlibkhkaa
