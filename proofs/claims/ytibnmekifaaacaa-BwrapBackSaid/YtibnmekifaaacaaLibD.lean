/- Functions of Go's library that cut octets at 13 and 10, and count: over the words of the Kit. Conditions: the arguments read as lists; lengths at most 2^30; the variable MaxLen holds a number. -/
import Derived.Test.YtibnmekifaaacaaLibC
import Derived.Test.YtibnmekifaaacaaRowl
import Derived.Test.Ytibnmekifaaacaa26S
import Derived.Test.YtibnmekifaaacaaShelf
import Derived.Lib.AppendStr
namespace Go.Proofs.Ytibnmekifaaacaa
open Go.RowKit

/-- append(v, s...), v the call's own, s a text -/
theorem wpList_appS {P : Program} {w : World} {ops : Array Oper} {rest : List Oper} {o : Oper} {a : Act} {Q : Exit → Act → World → Prop} (hgd : o.guard = none) {s x : Operand} {T U : TypeId}
    (ho : o.op = .call { callee := .builtin .append, args := #[s, x], argTypes := #[T, U] }) {B : Nat} {E : TypeId} (he : Elt P T E .u8 1) (hU : P.underlying U = some .string)
    {v : Value} {xs : List Int} {t : ByteArray} (hs : a.eval s = v) (hx : a.eval x = .string t)
    (hown : Own w B E .u8 v xs) {B0 : Nat} {w0 : World} (hbel : Below B0 w0 w) (hB : B0 ≤ B ∧ B ≤ w.heap.size) (hlen : xs.length + t.size ≤ 1099511627776)
    (h : ∀ v' w', Own w' B E .u8 v' (xs ++ strL t) → Below B0 w0 w' → w.grownBy w' v.ownBlock → wpList P ops Q rest (a.put o.dst v') w') : wpList P ops Q (o :: rest) a w := by
  obtain ⟨i, hi, hz0, hz1, hz2⟩ := info_parts he.info
  refine Lib.wpList_append_own_string (P := P) w hgd s x T U ho B E i he.under hU hi hz0 hz1 hz2 v _ _ hs hown.1 t hx (by unfold maxLen; omega) (by omega) hB.2 ?_
  intro v' w' h1 h2 _
  have hsz : (strL t).length = t.size := strL_length t
  have hcells : Lib.strCells t = (strL t).map (Value.int .u8) := by
    simp [Lib.strCells, strL, natL]
  refine h v' w' ⟨by rw [List.length_append, hsz, List.map_append, ← hcells]; exact h1, ?_⟩ (hbel.trans ((hown.grow h2 hB.2).mono hB.1)) h2
  intro y hy
  rcases List.mem_append.1 hy with hy | hy
  · exact hown.2 y hy
  · simp only [strL, natL, List.mem_map] at hy
    obtain ⟨u, _, rfl⟩ := hy
    have := u.toNat_lt
    apply wf_u8.2; omega

def crlfB : ByteArray := { data := #[13, 10] }
theorem strL_crlf : strL { data := #[13, 10] } = [13, 10] := by decide
theorem size_crlf : ({ data := #[13, 10] } : ByteArray).size = 2 := rfl

/-- the variable that bytes.Index asks holds a number -/
def MaxL (w : World) : Prop := ∃ m : Int, w.cell? ⟨0, 0, none⟩ = some (.int .i64 m)
theorem MaxL.bel {w w' : World} (h : MaxL w) (hb : Below w.heap.size w w') : MaxL w' := by
  obtain ⟨m, hm⟩ := h
  exact ⟨m, (hb.cell (World.block_lt_of_cell? w _ hm)).trans hm⟩
theorem MaxL.alloc {w : World} (h : MaxL w) (o : Obj) : MaxL (w.alloc o) := h.bel ((Below.refl _ _).alloc (Nat.le_refl _) _)

/-- a slice's address from place j on, as Go keeps it -/
def tailA (A : Option Addr) (c j : Nat) : Option Addr := if c = j then A else A.map (fun x => x.add j)
theorem Sl.tail {w : World} {k : IntKind} {A : Option Addr} {n c : Nat} {xs : List Int} (h : Sl w k A n c xs) {j : Nat} (hj : j ≤ n) : Sl w k (tailA A c j) (n - j) (c - j) (xs.drop j) := by
  unfold tailA
  have hle := h.le
  by_cases hc : c = j
  · rw [if_pos hc, show n - j = 0 from by omega, show c - j = 0 from by omega, List.drop_eq_nil_of_le (by have := h.len; omega)]; exact Sl.none_
  · rw [if_neg hc]
    have := h.cut (lo := j) (hi := n) (m := n - j) (c' := c - j) hj (Nat.le_refl _) rfl rfl
    rw [List.take_of_length_le (by have := h.len; omega)] at this
    exact this
theorem Sl.bytesIn {w : World} {A : Option Addr} {n c : Nat} {xs : List Int} (h : Sl w .u8 A n c xs) : Lib.BytesIn w A n xs := fun hn => by
  obtain ⟨b, o, e, _, hc⟩ := h.at_ hn
  exact ⟨b, o, e, hc⟩
theorem Sl.rng {w : World} {A : Option Addr} {n c : Nat} {xs : List Int} (h : Sl w .u8 A n c xs) : ∀ x ∈ xs, 0 ≤ x ∧ x < 256 := fun x hx => by have := wf_u8.1 (h.wf x hx); omega

theorem u8_eq {x y : Int} (hx : 0 ≤ x ∧ x < 256) (hy : 0 ≤ y ∧ y < 256) : (UInt8.ofNat x.toNat == UInt8.ofNat y.toNat) = decide (x = y) := by
  rw [Bool.eq_iff_iff]
  simp only [beq_iff_eq, decide_eq_true_iff]
  constructor
  · intro h
    have := congrArg UInt8.toNat h
    simp only [UInt8.toNat_ofNat'] at this
    omega
  · intro h; subst h; rfl
theorem cutI_shift (xs : List Int) (i : Int) (h : 0 ≤ i) : cutI xs (i + 1) = if cutI xs i = -1 then -1 else cutI xs i + 1 := by
  induction xs generalizing i with
  | nil => rfl
  | cons x r ih =>
    cases hn : nl x r with
    | true => rw [cutI_nl hn, cutI_nl hn, if_neg (by omega)]
    | false => rw [cutI_on hn, cutI_on hn]; exact ih (i + 1) (by omega)
theorem pre_nl {x : Int} {r : List Int} (hx : 0 ≤ x ∧ x < 256) (hr : ∀ y ∈ r, 0 ≤ y ∧ y < 256) : (Lib.bytesOf [13, 10]).isPrefixOf (Lib.bytesOf (x :: r)) = nl x r := by
  have h13 : UInt8.ofNat (13 : Int).toNat = 13 := rfl
  cases r with
  | nil => simp [Lib.bytesOf, nl, List.isPrefixOf]
  | cons y r' =>
    have e1 := u8_eq (x := 13) (y := x) (by omega) hx
    have e2 := u8_eq (x := 10) (y := y) (by omega) (hr y (by simp))
    have e3 : decide ((13 : Int) = x) = decide (x = 13) := by rw [Bool.eq_iff_iff]; simp only [decide_eq_true_iff]; exact ⟨Eq.symm, Eq.symm⟩
    have e4 : decide ((10 : Int) = y) = decide (y = 10) := by rw [Bool.eq_iff_iff]; simp only [decide_eq_true_iff]; exact ⟨Eq.symm, Eq.symm⟩
    rw [e3] at e1
    rw [e4] at e2
    show ((UInt8.ofNat (13 : Int).toNat == UInt8.ofNat x.toNat) && ((UInt8.ofNat (10 : Int).toNat == UInt8.ofNat y.toNat) && true)) = _
    rw [e1, e2, Bool.and_true]; rfl
theorem index_cut (xs : List Int) (h : ∀ x ∈ xs, 0 ≤ x ∧ x < 256) : Lib.index (Lib.bytesOf xs) (Lib.bytesOf [13, 10]) = cutI xs 0 := by
  induction xs with
  | nil => rfl
  | cons x r ih =>
    have hr := fun y hy => h y (List.mem_cons_of_mem x hy)
    have ih := ih hr
    have hp := pre_nl (h x (by simp)) hr
    have e : Lib.bytesOf (x :: r) = UInt8.ofNat x.toNat :: Lib.bytesOf r := rfl
    rw [e] at hp ⊢
    rw [Lib.index, hp, ih]
    cases hn : nl x r with
    | true => rw [if_pos rfl, cutI_nl hn]
    | false =>
      rw [if_neg (by decide), cutI_on hn, cutI_shift r 0 (by omega)]
      by_cases h1 : cutI r 0 = -1
      · rw [h1]; rfl
      · rw [if_neg h1, if_neg (by simpa using h1)]

/-- bytes.Cut at 13 and 10: nowhere -/
theorem lib_Cut0 {A n c xs A' c'} {w : World} (hs : Sl w .u8 A n c xs) (ht : Sl w .u8 A' 2 c' [13, 10]) (hM : MaxL w) (hn : n ≤ 1073741824) (hc : cutI xs 0 = -1) :
    Calls Try.prog 35 #[.slice A n c, .slice A' 2 c'] w (RetB (.tuple #[.slice A n c, .slice none 0 0, .bool false]) w) := by
  obtain ⟨m, hm⟩ := hM
  refine (Try.bytes_Cut_all A A' n c 2 c' xs [13, 10] m w hs.len rfl hs.rng ht.rng hs.bytesIn ht.bytesIn hs.nl hs.le (by omega) (by omega) hm).mono ?_
  rintro e w1 ⟨rfl, q, rfl⟩
  rw [index_cut xs hs.rng, hc]
  exact ⟨rfl, below_drewN (Below.refl _ _) _⟩
/-- bytes.Cut at 13 and 10: at place k -/
theorem lib_Cut1 {A n c xs A' c'} {k : Nat} {w : World} (hs : Sl w .u8 A n c xs) (ht : Sl w .u8 A' 2 c' [13, 10]) (hM : MaxL w) (hn : n ≤ 1073741824) (hc : cutI xs 0 = k) :
    Calls Try.prog 35 #[.slice A n c, .slice A' 2 c'] w (RetB (.tuple #[.slice A k c, .slice (tailA A c (k + 2)) (n - (k + 2)) (c - (k + 2)), .bool true]) w) := by
  obtain ⟨m, hm⟩ := hM
  refine (Try.bytes_Cut_all A A' n c 2 c' xs [13, 10] m w hs.len rfl hs.rng ht.rng hs.bytesIn ht.bytesIn hs.nl hs.le (by omega) (by omega) hm).mono ?_
  rintro e w1 ⟨rfl, q, rfl⟩
  rw [index_cut xs hs.rng, hc]
  refine ⟨?_, below_drewN (Below.refl _ _) _⟩
  unfold Lib.cutV Lib.fromV tailA
  rw [if_pos (by omega)]; rfl

theorem pairN_cut (xs : List Int) : (cutI xs 0 = -1 → pairN xs = 0) ∧ (∀ k : Nat, cutI xs 0 = k → pairN xs = 1 + pairN (xs.drop (k + 2))) := by
  induction xs with
  | nil => exact ⟨fun _ => rfl, fun k h => by have h' : (-1 : Int) = k := h; omega⟩
  | cons x r ih =>
    cases hn : nl x r with
    | true =>
      obtain ⟨rfl, r', rfl⟩ := nl_cons hn
      have hc : cutI (13 :: 10 :: r') 0 = 0 := cutI_nl hn
      rw [hc]
      refine ⟨fun h => absurd h (by decide), fun k h => ?_⟩
      have : k = 0 := by omega
      subst this
      have e : nl 10 r' = false := by cases r' <;> simp [nl]
      have e1 : pairN (13 :: 10 :: r') = 1 + pairN (10 :: r') := by rw [pairN, hn]; rfl
      have e2 : pairN (10 :: r') = 0 + pairN r' := by rw [pairN, e]; rfl
      rw [e1, e2]; simp
    | false =>
      have hcut : cutI (x :: r) 0 = if cutI r 0 = -1 then -1 else cutI r 0 + 1 := by rw [cutI_on hn, cutI_shift r 0 (by omega)]
      have hp : pairN (x :: r) = pairN r := by rw [pairN, hn]; simp
      rw [hcut, hp]
      rcases cutI_bd r with h2 | ⟨j, h2, _⟩
      · rw [if_pos h2]
        exact ⟨fun _ => ih.1 h2, fun k h => by omega⟩
      · rw [if_neg (by omega), h2]
        refine ⟨fun h => by omega, fun k h => ?_⟩
        obtain rfl : k = j + 1 := by omega
        rw [ih.2 j h2, show j + 1 + 2 = (j + 2) + 1 from by omega, List.drop_succ_cons]
theorem bytesOf_drop (xs : List Int) (k : Nat) : (Lib.bytesOf xs).drop k = Lib.bytesOf (xs.drop k) := by simp [Lib.bytesOf, List.map_drop]
theorem countFrom_pair (f : Nat) : ∀ xs : List Int, (∀ x ∈ xs, 0 ≤ x ∧ x < 256) → xs.length < f → ((Lib.countFrom (Lib.bytesOf [13, 10]) f (Lib.bytesOf xs) : Nat) : Int) = pairN xs := by
  induction f with
  | zero => intro xs _ h; omega
  | succ f ih =>
    intro xs hx hl
    rw [Lib.countFrom, index_cut xs hx]
    rcases cutI_bd xs with h | ⟨k, h, hk⟩
    · rw [h, (pairN_cut xs).1 h]; rfl
    · rw [if_neg (by rw [h]; simp), (pairN_cut xs).2 k h, h, bytesOf_drop]
      have e : ((k : Int).toNat + (Lib.bytesOf [13, 10]).length) = k + 2 := rfl
      rw [e]
      have := ih (xs.drop (k + 2)) (fun y hy => hx y (List.mem_of_mem_drop hy)) (by rw [List.length_drop]; omega)
      push_cast
      rw [this]
theorem count_pair {xs : List Int} (h : ∀ x ∈ xs, 0 ≤ x ∧ x < 256) : ((Lib.count (Lib.bytesOf xs) (Lib.bytesOf [13, 10]) : Nat) : Int) = pairN xs := by
  unfold Lib.count
  exact countFrom_pair _ xs h (by simp [Lib.bytesOf])
theorem countByte_cnt {xs : List Int} {c : Int} (h : ∀ x ∈ xs, 0 ≤ x ∧ x < 256) (hc : 0 ≤ c ∧ c < 256) : ((Lib.countByte (Lib.bytesOf xs) c.toNat.toUInt8 : Nat) : Int) = cntC c xs := by
  induction xs with
  | nil => rfl
  | cons x r ih =>
    have ih := ih fun y hy => h y (by simp [hy])
    have e := u8_eq (h x (by simp)) hc
    have e2 : Lib.bytesOf (x :: r) = UInt8.ofNat x.toNat :: Lib.bytesOf r := rfl
    have e3 : c.toNat.toUInt8 = UInt8.ofNat c.toNat := rfl
    unfold Lib.countByte at ih ⊢
    rw [e2, List.count_cons, cntC, ← ih, e3, e]
    by_cases hx : x = c
    · simp [hx]; omega
    · simp [hx]
end Go.Proofs.Ytibnmekifaaacaa
