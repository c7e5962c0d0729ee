/- Functions of Go's library that compare octets: bytes.Equal, HasSuffix, TrimSuffix. Conditions: the arguments read as lists. -/
import Derived.Test.YtjiofcnlibkhkaaLibB
import Derived.Lib.Bytes
namespace Go.Proofs.Ytjiofcnlibkhkaa
open Go.RowKit

theorem Sl.str {P : Program} {w : World} {A : Option Addr} {n c : Nat} {xs : List Int} (h : Sl w .u8 A n c xs) (src e dst : TypeId) (hs : P.underlying src = some (.slice e)) (he : P.underlying e = some (.int .u8)) (hd : P.underlying dst = some .string) :
    (convert src dst (.slice A n c)).run P w = .ok (.string (strOfNums xs)) w := by
  rcases Nat.eq_zero_or_pos n with hn | hn
  · subst hn
    obtain rfl : xs = [] := List.eq_nil_of_length_eq_zero h.len
    rw [run_convert_bytes_string w src dst e _ 0 c hs he hd]
    cases A <;> simp [Conv.bytesToString, loadCells] <;> rfl
  · obtain ⟨b, o, rfl, _, hc⟩ := h.at_ hn
    exact run_convert_bytes_arg (P := P) w src e hs he b o n c xs h.len hc dst hd
theorem str_beq {xs ys : List Int} (hx : ∀ x ∈ xs, (Lit.int .u8 x).wf = true) (hy : ∀ x ∈ ys, (Lit.int .u8 x).wf = true) : ((strOfNums xs).toList == (strOfNums ys).toList) = likeL xs ys := by
  rw [Lib.strOfNums_toList, Lib.strOfNums_toList, Bool.eq_iff_iff]
  simp only [beq_iff_eq, likeL, decide_eq_true_iff]
  constructor
  · intro h
    rw [← natL_bytesOf hx, ← natL_bytesOf hy, h]
  · intro h; rw [h]


/-- does a list end with another? -/
def endsWith (xs ys : List Int) : Bool := decide (ys.length ≤ xs.length) && likeL (xs.drop (xs.length - ys.length)) ys

def trimL (xs ys : List Int) : List Int := if endsWith xs ys then xs.take (xs.length - ys.length) else xs
end Go.Proofs.Ytjiofcnlibkhkaa
