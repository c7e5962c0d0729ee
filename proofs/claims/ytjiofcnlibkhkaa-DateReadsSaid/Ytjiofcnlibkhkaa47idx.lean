/- Layer 47 (date): the place of a name among names of three letters: what the first place in their text says. No condition: plain lemmas. -/
import Derived.Test.Ytjiofcnlibkhkaa47X
import Derived.Test.YtjiofcnlibkhkaaLibC
import Derived.Lib.IndexMore
namespace Go.Proofs.Ytjiofcnlibkhkaa
open Go.RowKit

def idxB : List (List UInt8) → List UInt8 → Int → Int
  | [], _, _ => -1
  | y :: r, x, i => if x = y then i else idxB r x (i + 1)
/-- a text that is names of three letters, one behind the other -/
structure NameTbl (D : ByteArray) (tbl : List (List UInt8)) : Prop where
  at_ : ∀ l ∈ tbl, Lib.index D.data.toList l = 3 * idxB tbl l 0 ∧ 0 ≤ idxB tbl l 0
  cut : ∀ i, i ≤ 40 → i % 3 = 0 → i + 3 ≤ D.data.toList.length → (D.data.toList.drop i).take 3 ∈ tbl
  len : D.data.toList.length ≤ 36
def dayB : List (List UInt8) := [[115, 117, 110], [109, 111, 110], [116, 117, 101], [119, 101, 100], [116, 104, 117], [102, 114, 105], [115, 97, 116]]
def monB : List (List UInt8) := [[106, 97, 110], [102, 101, 98], [109, 97, 114], [97, 112, 114], [109, 97, 121], [106, 117, 110], [106, 117, 108], [97, 117, 103], [115, 101, 112], [111, 99, 116], [110, 111, 118], [100, 101, 99]]
theorem dayT : NameTbl { data := #[115, 117, 110, 109, 111, 110, 116, 117, 101, 119, 101, 100, 116, 104, 117, 102, 114, 105, 115, 97, 116] } dayB :=
  ⟨by decide +kernel, by decide +kernel, by decide +kernel⟩
theorem monT : NameTbl { data := #[106, 97, 110, 102, 101, 98, 109, 97, 114, 97, 112, 114, 109, 97, 121, 106, 117, 110, 106, 117, 108, 97, 117, 103, 115, 101, 112, 111, 99, 116, 110, 111, 118, 100, 101, 99] } monB :=
  ⟨by decide +kernel, by decide +kernel, by decide +kernel⟩
theorem idxB_not {tbl : List (List UInt8)} {l : List UInt8} (h : l ∉ tbl) (i : Int) : idxB tbl l i = -1 := by
  induction tbl generalizing i with
  | nil => rfl
  | cons y r ih =>
    simp only [List.mem_cons, not_or] at h
    unfold idxB
    rw [if_neg h.1]; exact ih h.2 _
theorem idxB_hi {tbl : List (List UInt8)} {l : List UInt8} (i : Int) : idxB tbl l i < i + tbl.length ∨ idxB tbl l i = -1 := by
  induction tbl generalizing i with
  | nil => right; rfl
  | cons y r ih =>
    unfold idxB
    split
    · left; simp only [List.length_cons]; omega
    · rcases ih (i + 1) with h | h
      · left; simp only [List.length_cons]; omega
      · right; exact h
theorem natL_inj : ∀ {l y : List UInt8}, l.map (fun u => (u.toNat : Int)) = y.map (fun u => (u.toNat : Int)) → l = y
  | [], [], _ => rfl
  | [], _ :: _, h => by simp at h
  | _ :: _, [], h => by simp at h
  | a :: l, b :: y, h => by
    simp only [List.map_cons, List.cons.injEq] at h
    obtain ⟨h1, h2⟩ := h
    have e1 : a = b := UInt8.toNat_inj.1 (by omega)
    have e2 : l = y := natL_inj h2
    rw [e1, e2]
theorem idxW_B {tbl : List (List UInt8)} {l : List UInt8} (i : Int) : idxW (tbl.map natL) (natL l) i = idxB tbl l i := by
  induction tbl generalizing i with
  | nil => rfl
  | cons y r ih =>
    simp only [List.map_cons]
    unfold idxW idxB
    have e : natL l = natL y ↔ l = y := by
      constructor
      · intro h
        unfold natL at h
        exact natL_inj h
      · intro h; rw [h]
    by_cases hl : l = y
    · rw [if_pos hl, if_pos (e.2 hl)]
    · rw [if_neg hl, if_neg (fun h => hl (e.1 h))]; exact ih _
/-- what a name's first place says -/
theorem NameTbl.says {D : ByteArray} {tbl : List (List UInt8)} (T : NameTbl D tbl) {l : List UInt8} (h3 : l.length = 3) :
    (Lib.index D.data.toList l = -1 ∧ idxB tbl l 0 = -1) ∨ (∃ j : Nat, Lib.index D.data.toList l = j ∧ j ≤ 36 ∧ ((j % 3 = 0 ∧ idxB tbl l 0 = ((j / 3 : Nat) : Int)) ∨ (j % 3 ≠ 0 ∧ idxB tbl l 0 = -1))) := by
  by_cases hm : l ∈ tbl
  · obtain ⟨h1, h2⟩ := T.at_ l hm
    right
    obtain ⟨q, hq⟩ := Int.eq_ofNat_of_zero_le h2
    have hle : Lib.index D.data.toList l + l.length ≤ D.data.toList.length := Lib.index_room _ _ (by rw [h1]; omega)
    have := T.len
    refine ⟨3 * q, by rw [h1, hq]; omega, by rw [h1, hq] at hle; omega, Or.inl ⟨by omega, by rw [hq]; omega⟩⟩
  · have hn := idxB_not hm 0
    rcases Lib.index_spec D.data.toList l with ⟨h, _⟩ | ⟨i, h, hi, ho, _⟩
    · exact Or.inl ⟨h, hn⟩
    · right
      have hle : Lib.index D.data.toList l + l.length ≤ D.data.toList.length := Lib.index_room _ _ (by rw [h]; omega)
      have hlen := T.len
      refine ⟨i, h, by omega, ?_⟩
      by_cases h0 : i % 3 = 0
      · exfalso
        have hc := T.cut i (by omega) h0 (by omega)
        unfold Lib.occAt at ho
        have hp := List.isPrefixOf_iff_prefix.1 ho
        have := List.prefix_iff_eq_take.1 hp
        rw [h3] at this
        exact hm (this ▸ hc)
      · exact Or.inr ⟨h0, hn⟩
/-- the place of octets, as small letters, among names; -1: they are none -/
def nameV (tbl : List (List UInt8)) (xs : List Int) : Int := if xs.length = 3 then idxW (tbl.map natL) (xs.map lowL) 0 else -1
theorem nameV_rng (tbl : List (List UInt8)) (xs : List Int) (hl : tbl.length ≤ 12) (hw : ∀ x ∈ xs, (Lit.int .u8 x).wf = true) : -1 ≤ nameV tbl xs ∧ nameV tbl xs ≤ 11 := by
  unfold nameV
  split
  · have e : xs.map lowL = natL (Lib.bytesOf (xs.map lowL)) := (natL_bytesOf (fun x hx => by
      obtain ⟨y, hy, rfl⟩ := List.mem_map.1 hx
      exact lowL_wf (hw y hy))).symm
    rw [e, idxW_B]
    have hlo : ∀ (t : List (List UInt8)) (l : List UInt8) (i : Int), 0 ≤ i → -1 ≤ idxB t l i := by
      intro t l
      induction t with
      | nil => intro i _; exact Int.le_refl _
      | cons y r ih => intro i hi; unfold idxB; split; omega; exact ih _ (by omega)
    have h1 := hlo tbl (Lib.bytesOf (xs.map lowL)) 0 (by omega)
    rcases idxB_hi (tbl := tbl) (l := Lib.bytesOf (xs.map lowL)) 0 with h | h <;> omega
  · omega
end Go.Proofs.Ytjiofcnlibkhkaa
