/- Layer 11 (label) in plain words: the names, what a name leads to, a name without its language; the map of the names. Condition: the octets are octets. -/
import Derived.Test.YtkphnhbblbamgaaDoor01T
import Derived.Maps.OwnSet
import Derived.Carry
namespace Go.Proofs.YtkphnhbblbamgaaDoor
open Go.RowKit Go.Maps

def nm1 : List (List Int) := [[117, 115, 45, 97, 115, 99, 105, 105], [97, 115, 99, 105, 105], [97, 110, 115, 105, 95, 120, 51, 46, 52, 45, 49, 57, 54, 56], [105, 115, 111, 54, 52, 54, 45, 117, 115]]
def nm2 : List (List Int) := [[105, 115, 111, 45, 56, 56, 53, 57, 45, 49], [105, 115, 111, 95, 56, 56, 53, 57, 45, 49], [108, 97, 116, 105, 110, 49], [108, 49]]
def nm3 : List (List Int) := [[105, 115, 111, 45, 56, 56, 53, 57, 45, 49, 53], [105, 115, 111, 95, 56, 56, 53, 57, 45, 49, 53], [108, 97, 116, 105, 110, 45, 57]]
def nm4 : List (List Int) := [[119, 105, 110, 100, 111, 119, 115, 45, 49, 50, 53, 50], [99, 112, 49, 50, 53, 50]]
def nm5 : List (List Int) := [[117, 116, 102, 45, 56], [117, 116, 102, 56]]
def nmL (n : Int) : List (List Int) := if n = 1 then nm1 else if n = 2 then nm2 else if n = 3 then nm3 else if n = 4 then nm4 else if n = 5 then nm5 else []
theorem sn1_0 : strOfNums [117, 115, 45, 97, 115, 99, 105, 105] = { data := #[117, 115, 45, 97, 115, 99, 105, 105] } := by decide
theorem sn1_1 : strOfNums [97, 115, 99, 105, 105] = { data := #[97, 115, 99, 105, 105] } := by decide
theorem sn1_2 : strOfNums [97, 110, 115, 105, 95, 120, 51, 46, 52, 45, 49, 57, 54, 56] = { data := #[97, 110, 115, 105, 95, 120, 51, 46, 52, 45, 49, 57, 54, 56] } := by decide
theorem sn1_3 : strOfNums [105, 115, 111, 54, 52, 54, 45, 117, 115] = { data := #[105, 115, 111, 54, 52, 54, 45, 117, 115] } := by decide
theorem sn2_0 : strOfNums [105, 115, 111, 45, 56, 56, 53, 57, 45, 49] = { data := #[105, 115, 111, 45, 56, 56, 53, 57, 45, 49] } := by decide
theorem sn2_1 : strOfNums [105, 115, 111, 95, 56, 56, 53, 57, 45, 49] = { data := #[105, 115, 111, 95, 56, 56, 53, 57, 45, 49] } := by decide
theorem sn2_2 : strOfNums [108, 97, 116, 105, 110, 49] = { data := #[108, 97, 116, 105, 110, 49] } := by decide
theorem sn2_3 : strOfNums [108, 49] = { data := #[108, 49] } := by decide
theorem sn3_0 : strOfNums [105, 115, 111, 45, 56, 56, 53, 57, 45, 49, 53] = { data := #[105, 115, 111, 45, 56, 56, 53, 57, 45, 49, 53] } := by decide
theorem sn3_1 : strOfNums [105, 115, 111, 95, 56, 56, 53, 57, 45, 49, 53] = { data := #[105, 115, 111, 95, 56, 56, 53, 57, 45, 49, 53] } := by decide
theorem sn3_2 : strOfNums [108, 97, 116, 105, 110, 45, 57] = { data := #[108, 97, 116, 105, 110, 45, 57] } := by decide
theorem sn4_0 : strOfNums [119, 105, 110, 100, 111, 119, 115, 45, 49, 50, 53, 50] = { data := #[119, 105, 110, 100, 111, 119, 115, 45, 49, 50, 53, 50] } := by decide
theorem sn4_1 : strOfNums [99, 112, 49, 50, 53, 50] = { data := #[99, 112, 49, 50, 53, 50] } := by decide
theorem sn5_0 : strOfNums [117, 116, 102, 45, 56] = { data := #[117, 116, 102, 45, 56] } := by decide
theorem sn5_1 : strOfNums [117, 116, 102, 56] = { data := #[117, 116, 102, 56] } := by decide
theorem sc1 : strOfNums [55, 98, 105, 116] = { data := #[55, 98, 105, 116] } := by decide
theorem sc2 : strOfNums [113, 117, 111, 116, 101, 100, 45, 112, 114, 105, 110, 116, 97, 98, 108, 101] = { data := #[113, 117, 111, 116, 101, 100, 45, 112, 114, 105, 110, 116, 97, 98, 108, 101] } := by decide
theorem sc3 : strOfNums [98, 97, 115, 101, 54, 52] = { data := #[98, 97, 115, 101, 54, 52] } := by decide
theorem sc0 : strOfNums [] = { data := #[] } := by decide
def cdL (n : Int) : List Int := if n = 1 then [55, 98, 105, 116] else if n = 2 then [113, 117, 111, 116, 101, 100, 45, 112, 114, 105, 110, 116, 97, 98, 108, 101] else if n = 3 then [98, 97, 115, 101, 54, 52] else []

/-- the slice value 'A n c' holds these texts -/
structure Ss (w : World) (A : Option Addr) (n : Nat) (xs : List (List Int)) : Prop where
  len : xs.length = n
  at_ : ∀ j, j < n → ∃ b, A = some ⟨b, 0, none⟩ ∧ b < w.heap.size ∧ w.cell? ⟨b, j, none⟩ = some (.string (strOfNums (xs.getD j [])))
theorem Ss.bel {w w' : World} {A : Option Addr} {n : Nat} {xs : List (List Int)} (h : Ss w A n xs) (hb : Below w.heap.size w w') : Ss w' A n xs :=
  ⟨h.len, fun j hj => by
    obtain ⟨b, e, hlt, hc⟩ := h.at_ j hj
    exact ⟨b, e, Nat.lt_of_lt_of_le hlt hb.size, (hb.cell (by exact hlt)).trans hc⟩⟩
theorem Ss.nil (w : World) (A : Option Addr) : Ss w A 0 [] := ⟨rfl, fun j hj => absurd hj (by omega)⟩
theorem Ss.new (w : World) (vs : Array Value) (E : TypeId) (xs : List (List Int)) (h : vs.toList = xs.map fun x => Value.string (strOfNums x)) : Ss (w.alloc (.cells vs E)) (some ⟨w.heap.size, 0, none⟩) xs.length xs :=
  ⟨rfl, fun j hj => ⟨w.heap.size, rfl, by simp, by
    rw [cell_of_row _ w.heap.size j vs E (0, 0) (heap_alloc_new w _), ← Array.getElem?_toList, h]
    simp [hj]⟩⟩

/-- what a name leads to; 0: to none -/
def csNum (x : List Int) : Int := if x ∈ nm5 then 5 else if x ∈ nm4 then 4 else if x ∈ nm3 then 3 else if x ∈ nm2 then 2 else if x ∈ nm1 then 1 else 0
theorem cs_mem {k : Int} {x : List Int} (h : x ∈ nmL k) : csNum x = k := by
  have h1 : ∀ x ∈ nm1, csNum x = 1 := by decide
  have h2 : ∀ x ∈ nm2, csNum x = 2 := by decide
  have h3 : ∀ x ∈ nm3, csNum x = 3 := by decide
  have h4 : ∀ x ∈ nm4, csNum x = 4 := by decide
  have h5 : ∀ x ∈ nm5, csNum x = 5 := by decide
  unfold nmL at h
  repeat' split at h
  · subst_vars; exact h1 _ h
  · subst_vars; exact h2 _ h
  · subst_vars; exact h3 _ h
  · subst_vars; exact h4 _ h
  · subst_vars; exact h5 _ h
  · cases h
theorem cs_none {x : List Int} (h : ∀ k : Nat, 1 ≤ k → k ≤ 5 → x ∉ nmL k) : csNum x = 0 := by
  have h1 : x ∉ nm1 := h 1 (by omega) (by omega)
  have h2 : x ∉ nm2 := h 2 (by omega) (by omega)
  have h3 : x ∉ nm3 := h 3 (by omega) (by omega)
  have h4 : x ∉ nm4 := h 4 (by omega) (by omega)
  have h5 : x ∉ nm5 := h 5 (by omega) (by omega)
  unfold csNum
  rw [if_neg h5, if_neg h4, if_neg h3, if_neg h2, if_neg h1]
theorem nmL_wf (k : Int) : ∀ x ∈ nmL k, ∀ y ∈ x, (Lit.int .u8 y).wf = true := by
  unfold nmL
  repeat' split
  all_goals decide
theorem nmL_len (k : Int) : (nmL k).length ≤ 4 := by
  unfold nmL
  repeat' split
  all_goals decide
theorem nmL_size (k : Int) : ∀ x ∈ nmL k, x.length ≤ 20 := by
  unfold nmL
  repeat' split
  all_goals decide
def csE (x : List Int) : Int := if csNum x = 0 then 10 else 0
/-- the coding that a name leads to; 0: to none -/
def cdNum (x : List Int) : Int := if x = cdL 1 then 1 else if x = cdL 2 then 2 else if x = cdL 3 then 3 else 0
def cdE (x : List Int) : Int := if cdNum x = 0 then 11 else 0
theorem cd_mem {k : Nat} (h1 : 1 ≤ k) (h3 : k ≤ 3) {x : List Int} (h : cdL k = x) : cdNum x = k := by
  subst h
  have : k = 1 ∨ k = 2 ∨ k = 3 := by omega
  rcases this with rfl | rfl | rfl <;> decide
theorem cd_none {x : List Int} (h : ∀ k : Nat, 1 ≤ k → k ≤ 3 → cdL k ≠ x) : cdNum x = 0 := by
  unfold cdNum
  rw [if_neg (fun e => h 1 (by omega) (by omega) e.symm), if_neg (fun e => h 2 (by omega) (by omega) e.symm), if_neg (fun e => h 3 (by omega) (by omega) e.symm)]
theorem cdL_wf (k : Int) : ∀ y ∈ cdL k, (Lit.int .u8 y).wf = true := by
  unfold cdL
  repeat' split
  all_goals decide

/-- two texts are the same: so are their octets -/
theorem str_is {x y : List Int} (hx : ∀ a ∈ x, (Lit.int .u8 a).wf = true) (hy : ∀ a ∈ y, (Lit.int .u8 a).wf = true) : ((strOfNums x).toList == (strOfNums y).toList) = decide (x = y) := str_beq hx hy

/-- ahead of a language -/
def cutS : List Int → List Int
  | [] => []
  | x :: r => if x = 42 then [] else x :: cutS r
theorem cutS_take (xs : List Int) : cutS xs = xs.take (cutS xs).length := by
  induction xs with
  | nil => rfl
  | cons x r ih =>
    unfold cutS
    split
    · simp
    · rw [List.length_cons, List.take_succ_cons, ← ih]
theorem cutS_len (xs : List Int) : (cutS xs).length ≤ xs.length := by
  rw [cutS_take]; simp; omega
theorem cutS_idx (xs : List Int) (i : Int) (hi : 0 ≤ i) : (idx (isB 42) xs i = -1 ∧ cutS xs = xs) ∨ (idx (isB 42) xs i = i + (cutS xs).length ∧ (cutS xs).length < xs.length) := by
  induction xs generalizing i with
  | nil => exact .inl ⟨rfl, rfl⟩
  | cons x r ih =>
    by_cases h : x = 42
    · refine .inr ⟨?_, ?_⟩
      · simp [idx, isB, h, cutS]
      · simp [cutS, h]
    · rcases ih (i + 1) (by omega) with ⟨h1, h2⟩ | ⟨h1, h2⟩
      · exact .inl ⟨by simp [idx, isB, h]; exact h1, by simp [cutS, h, h2]⟩
      · refine .inr ⟨?_, ?_⟩
        · simp only [idx, isB, h, decide_false, Bool.false_eq_true, if_false, cutS, List.length_cons]
          rw [show idx (isB 42) r (i + 1) = _ from h1]; omega
        · simp [cutS, h]; exact h2
def bareL (xs : List Int) : List Int := tbL (cutS xs)
def keyN (xs : List Int) : List Int := fldL (bareL xs)
def keyC (xs : List Int) : List Int := fldL (tbL xs)

/-! the map of the names -/
def keyT (x : List Int) : Lit := .string (strOfNums x).data.toList
theorem keyT_inj {x y : List Int} (hx : ∀ a ∈ x, (Lit.int .u8 a).wf = true) (hy : ∀ a ∈ y, (Lit.int .u8 a).wf = true) (h : keyT x = keyT y) : x = y := by
  have hb : (strOfNums x).data.toList = (strOfNums y).data.toList := by injection h
  have e := str_is hx hy
  have h2 : strOfNums x = strOfNums y := by
    cases hx' : strOfNums x with | mk a => cases hy' : strOfNums y with | mk b =>
      rw [hx', hy'] at hb
      have : a = b := Array.toList_inj.1 hb
      rw [this]
  rw [h2] at e
  simpa using e.symm
abbrev Dm := DataW Unit
def putN (k : Int) (l : List (List Int)) (D : Dm) : Dm := l.foldl (fun D s => D.put (keyT s) (.lit (.int .i64 k))) D
def dmN : Nat → Dm
  | 0 => .map []
  | k + 1 => putN (k + 1 : Nat) (nmL (k + 1 : Nat)) (dmN k)
theorem putN_snoc (k : Int) (l : List (List Int)) (s : List Int) (D : Dm) : putN k (l ++ [s]) D = (putN k l D).put (keyT s) (.lit (.int .i64 k)) := by simp [putN, List.foldl_append]
theorem putN_isMap (k : Int) (l : List (List Int)) : ∀ {D : Dm}, IsMap D → IsMap (putN k l D) := by
  induction l with
  | nil => exact fun h => h
  | cons s r ih => exact fun h => ih (h.put _ _)
theorem dmN_isMap (k : Nat) : IsMap (dmN k) := by
  induction k with
  | zero => exact isMap_empty
  | succ k ih => exact putN_isMap _ _ ih
theorem putN_has (k : Int) (x : List Int) (hx : ∀ a ∈ x, (Lit.int .u8 a).wf = true) (l : List (List Int)) (hl : ∀ s ∈ l, ∀ a ∈ s, (Lit.int .u8 a).wf = true) : ∀ {D : Dm}, IsMap D →
    Maps.has (putN k l D) (keyT x) = (decide (x ∈ l) || Maps.has D (keyT x)) ∧ ∀ z, (putN k l D).atKey (keyT x) z = if x ∈ l then .lit (.int .i64 k) else D.atKey (keyT x) z := by
  induction l with
  | nil => exact fun h => ⟨by simp [putN], fun z => by simp [putN]⟩
  | cons s r ih =>
    intro D hD
    obtain ⟨h1, h2⟩ := ih (fun t ht => hl t (List.mem_cons_of_mem _ ht)) (hD.put (keyT s) (.lit (.int .i64 k)))
    have e : putN k (s :: r) D = putN k r (D.put (keyT s) (.lit (.int .i64 k))) := rfl
    rw [e, h1]
    by_cases hs : x = s
    · subst hs
      refine ⟨by rw [has_put_same hD (show WideAt.IsKeyLit (keyT x) from trivial)]; simp, fun z => ?_⟩
      rw [h2]
      split
      · simp
      · rw [atKey_put_same hD (show WideAt.IsKeyLit (keyT x) from trivial)]; simp
    · have hne : keyT x ≠ keyT s := fun h => hs (keyT_inj hx (hl s (List.mem_cons_self ..)) h)
      refine ⟨by rw [has_put_other hne]; simp [hs], fun z => ?_⟩
      rw [h2, atKey_put_other hne]
      simp [hs]
theorem dm_look {x : List Int} (hx : ∀ a ∈ x, (Lit.int .u8 a).wf = true) : Maps.has (dmN 5) (keyT x) = decide (¬ csNum x = 0) ∧ ∀ z c, (dmN 5).atKey (keyT x) (.lit (.int .i64 z)) = .lit (.int .i64 c) → ¬ csNum x = 0 → c = csNum x := by
  have q := fun k => putN_has (k + 1 : Nat) x hx (nmL (k + 1 : Nat)) (nmL_wf _) (dmN_isMap k)
  have q5 : _ ∧ _ := q 4
  have q4 : _ ∧ _ := q 3
  have q3 : _ ∧ _ := q 2
  have q2 : _ ∧ _ := q 1
  have q1 : _ ∧ _ := q 0
  have e1 : nmL ((0 + 1 : Nat) : Int) = nm1 := rfl
  have e2 : nmL ((1 + 1 : Nat) : Int) = nm2 := rfl
  have e3 : nmL ((2 + 1 : Nat) : Int) = nm3 := rfl
  have e4 : nmL ((3 + 1 : Nat) : Int) = nm4 := rfl
  have e5 : nmL ((4 + 1 : Nat) : Int) = nm5 := rfl
  rw [e1] at q1; rw [e2] at q2; rw [e3] at q3; rw [e4] at q4; rw [e5] at q5
  have z0 : Maps.has (dmN 0) (keyT x) = false := rfl
  have d5 : dmN 5 = putN ((4 + 1 : Nat) : Int) nm5 (dmN 4) := rfl
  have d4 : dmN 4 = putN ((3 + 1 : Nat) : Int) nm4 (dmN 3) := rfl
  have d3 : dmN 3 = putN ((2 + 1 : Nat) : Int) nm3 (dmN 2) := rfl
  have d2 : dmN 2 = putN ((1 + 1 : Nat) : Int) nm2 (dmN 1) := rfl
  have d1 : dmN 1 = putN ((0 + 1 : Nat) : Int) nm1 (dmN 0) := rfl
  rw [← d5] at q5; rw [← d4] at q4; rw [← d3] at q3; rw [← d2] at q2; rw [← d1] at q1
  refine ⟨?_, fun z c h hn => ?_⟩
  · rw [q5.1, q4.1, q3.1, q2.1, q1.1, z0]
    unfold csNum
    by_cases h5 : x ∈ nm5 <;> by_cases h4 : x ∈ nm4 <;> by_cases h3 : x ∈ nm3 <;> by_cases h2 : x ∈ nm2 <;> by_cases h1 : x ∈ nm1 <;> simp [h1, h2, h3, h4, h5]
  · rw [q5.2, q4.2, q3.2, q2.2, q1.2] at h
    unfold csNum at hn ⊢
    by_cases h5 : x ∈ nm5
    · simp [h5] at h ⊢; exact h.symm
    by_cases h4 : x ∈ nm4
    · simp [h5, h4] at h ⊢; exact h.symm
    by_cases h3 : x ∈ nm3
    · simp [h5, h4, h3] at h ⊢; exact h.symm
    by_cases h2 : x ∈ nm2
    · simp [h5, h4, h3, h2] at h ⊢; exact h.symm
    by_cases h1 : x ∈ nm1
    · simp [h5, h4, h3, h2, h1] at h ⊢; exact h.symm
    simp [h5, h4, h3, h2, h1] at hn
end Go.Proofs.YtkphnhbblbamgaaDoor
