/- Words for memory: a slice of integers that reads as a list, a slice of the call's own, and the ways in which a call ends. No condition: plain lemmas. -/
import Derived.WalkKit
import Derived.WalkSpells
import Derived.WalkLawsBesides
import Derived.Lib.Hide
import Derived.WalkSmall
import Derived.Shelf.Abstract
namespace Go.Proofs.Ytjiofcnlibkhkaa
open Go.RowKit

/-- returns v, nothing has turned -/
def Ret (v : Value) (w : World) (e : Ending) (w' : World) : Prop := e = .returned v ∧ w = w'
/-- returns v, what was there is as it was -/
def RetB (v : Value) (w : World) (e : Ending) (w' : World) : Prop := e = .returned v ∧ Below w.heap.size w w'

theorem Ret.b {v : Value} {w w' : World} {e : Ending} (h : Ret v w e w') : RetB v w e w' := ⟨h.1, h.2 ▸ Below.refl _ _⟩
theorem ret_bool {a b : Bool} (h : a = b) : Ending.returned (.bool a) = .returned (.bool b) := by rw [h]
theorem ret_int {k : IntKind} {a b : Int} (h : a = b) : Ending.returned (.int k a) = .returned (.int k b) := by rw [h]
theorem ret2 {a b c d : Value} (h : a = c) (h' : b = d) : Ending.returned (.tuple #[a, b]) = .returned (.tuple #[c, d]) := by rw [h, h']
theorem ret3 {a b x c d y : Value} (h : a = c) (h' : b = d) (h'' : x = y) : Ending.returned (.tuple #[a, b, x]) = .returned (.tuple #[c, d, y]) := by rw [h, h', h'']
theorem vint {k : IntKind} {a b : Int} (h : a = b) : Value.int k a = .int k b := by rw [h]
theorem vbool {a b : Bool} (h : a = b) : Value.bool a = .bool b := by rw [h]
theorem wf_u8 {x : Int} : (Lit.int .u8 x).wf = true ↔ 0 ≤ x ∧ x ≤ 255 := by
  simp [Lit.wf, IntKind.min, IntKind.max, IntKind.signed, IntKind.bits]
theorem wf_i32 {x : Int} : (Lit.int .i32 x).wf = true ↔ -2147483648 ≤ x ∧ x ≤ 2147483647 := by
  simp [Lit.wf, IntKind.min, IntKind.max, IntKind.signed, IntKind.bits]
theorem wf_i64 {x : Int} : (Lit.int .i64 x).wf = true ↔ -9223372036854775808 ≤ x ∧ x ≤ 9223372036854775807 := by
  simp [Lit.wf, IntKind.min, IntKind.max, IntKind.signed, IntKind.bits]
theorem below_then {w w1 w2 : World} (h1 : Below w.heap.size w w1) (h2 : Below w1.heap.size w1 w2) : Below w.heap.size w w2 := h1.trans (h2.mono h1.size)
theorem below_then' {B : Nat} {w w1 w2 : World} (h1 : Below B w w1) (h2 : Below w1.heap.size w1 w2) (hB : B ≤ w.heap.size) : Below B w w2 := h1.trans (h2.mono (Nat.le_trans hB h1.size))

/-- the slice value '.slice A n c' reads as the numbers xs of kind k -/
structure Sl (w : World) (k : IntKind) (A : Option Addr) (n c : Nat) (xs : List Int) : Prop where
  len : xs.length = n
  le : n ≤ c
  cm : c ≤ maxLen
  nl : A = none → c = 0
  wf : ∀ x ∈ xs, (Lit.int k x).wf = true
  at_ : 0 < n → ∃ b o, A = some ⟨b, o, none⟩ ∧ b < w.heap.size ∧ ∀ j, j < n → w.cell? ⟨b, o + j, none⟩ = some (.int k (xs.getD j 0))

theorem drop_getD (xs : List Int) (j : Nat) (hj : j < xs.length) : xs.drop j = xs.getD j 0 :: xs.drop (j + 1) := by
  rw [List.drop_eq_getElem_cons hj]; simp [hj]
theorem drop_piece (xs : List Int) {lo hi : Nat} (h : lo ≤ hi) : xs.drop lo = (xs.take hi).drop lo ++ xs.drop hi := by
  rw [List.drop_take]
  obtain ⟨d, rfl⟩ : ∃ d, hi = lo + d := ⟨hi - lo, by omega⟩
  rw [show lo + d - lo = d from by omega, ← List.drop_drop, List.take_append_drop]
theorem take_getD (xs : List Int) (j : Nat) (hj : j < xs.length) : xs.take (j + 1) = xs.take j ++ [xs.getD j 0] := by
  rw [List.take_succ_eq_append_getElem hj]; simp [hj]

section
variable {w w' : World} {k : IntKind} {A : Option Addr} {n c : Nat} {xs : List Int}
theorem Sl.nil (w : World) (k : IntKind) : Sl w k none 0 0 [] := ⟨rfl, Nat.zero_le _, Nat.zero_le _, fun _ => rfl, by simp, fun h => absurd h (by omega)⟩
theorem Sl.keep (h : Sl w k A n c xs) (hz : w.heap.size ≤ w'.heap.size) (hk : ∀ p : Addr, p.block < w.heap.size → w'.cell? p = w.cell? p) : Sl w' k A n c xs :=
  ⟨h.len, h.le, h.cm, h.nl, h.wf, fun hn => by
    obtain ⟨b, o, e, hb, hc⟩ := h.at_ hn
    exact ⟨b, o, e, by omega, fun j hj => (hk _ hb).trans (hc j hj)⟩⟩
theorem Sl.below {B : Nat} (h : Sl w k A n c xs) (hb : Below B w w') (hB : w.heap.size ≤ B) : Sl w' k A n c xs := h.keep hb.size fun _ hp => hb.cell (by omega)
theorem Sl.bel (h : Sl w k A n c xs) (hb : Below w.heap.size w w') : Sl w' k A n c xs := h.below hb (Nat.le_refl _)
theorem Sl.drew (h : Sl w k A n c xs) : Sl w.drew k A n c xs := h.bel (Below.refl _ _).drew
theorem Sl.alloc (h : Sl w k A n c xs) (o : Obj) : Sl (w.alloc o) k A n c xs := h.bel ((Below.refl _ _).alloc (Nat.le_refl _) o)
theorem Sl.cell {b o j : Nat} (h : Sl w k (some ⟨b, o, none⟩) n c xs) (hj : j < n) : w.cell? ⟨b, o + j, none⟩ = some (.int k (xs.getD j 0)) := by
  obtain ⟨b', o', e, _, hc⟩ := h.at_ (by omega)
  injection e with e; injection e with e1 e2 _
  subst e1; subst e2; exact hc j hj
theorem Sl.lt {b o : Nat} (h : Sl w k (some ⟨b, o, none⟩) n c xs) (hn : 0 < n) : b < w.heap.size := by
  obtain ⟨b', o', e, hb, _⟩ := h.at_ hn
  injection e with e; injection e with e1 e2 _
  subst e1; exact hb
theorem Sl.form (h : Sl w k A n c xs) (hn : 0 < n) : ∃ b o, A = some ⟨b, o, none⟩ ∧ b < w.heap.size := by
  obtain ⟨b, o, e, hb, _⟩ := h.at_ hn; exact ⟨b, o, e, hb⟩
theorem Sl.wfAt (h : Sl w k A n c xs) {j : Nat} (hj : j < n) : (Lit.int k (xs.getD j 0)).wf = true := by
  have hl : j < xs.length := by have := h.len; omega
  exact h.wf _ (by simp [List.getD_eq_getElem?_getD, hl])
/-- element j: its place, its value x, and the rest of the list from there on -/
theorem Sl.get (h : Sl w k A n c xs) {j : Nat} (hj : j < n) : ∃ b o x, A = some ⟨b, o, none⟩ ∧ b < w.heap.size ∧ w.cell? ⟨b, o + j, none⟩ = some (.int k x) ∧
    (Lit.int k x).wf = true ∧ xs.drop j = x :: xs.drop (j + 1) ∧ xs.take (j + 1) = xs.take j ++ [x] := by
  obtain ⟨b, o, e, hb, hc⟩ := h.at_ (by omega)
  have hl : j < xs.length := by have := h.len; omega
  exact ⟨b, o, xs.getD j 0, e, hb, hc j hj, h.wfAt hj, drop_getD xs j hl, take_getD xs j hl⟩
end

/-- a piece of a slice, as the walk spells it -/
theorem Sl.cut {w : World} {k : IntKind} {A : Option Addr} {n c : Nat} {xs : List Int} (h : Sl w k A n c xs) {lo hi m c' : Nat} (hlo : lo ≤ hi) (hhi : hi ≤ n) (hm : m = hi - lo) (hc' : c' = c - lo) :
    Sl w k (Option.map (fun x => x.add lo) A) m c' ((xs.take hi).drop lo) := by
  subst hm
  subst hc'
  have hl := h.len
  have hle := h.le
  have hcm := h.cm
  refine ⟨by simp; omega, by omega, by omega, fun e => ?_, fun x hx => h.wf x (List.mem_of_mem_take (List.mem_of_mem_drop hx)), fun hn => ?_⟩
  · have := h.nl (by simpa using e)
    omega
  · obtain ⟨b, o, rfl, hb, hc⟩ := h.at_ (by omega)
    have hadd : (⟨b, o, none⟩ : Addr).add lo = ⟨b, o + lo, none⟩ := by unfold Addr.add; split <;> simp_all
    refine ⟨b, o + lo, by simp [hadd], hb, fun j hj => ?_⟩
    have := hc (lo + j) (by omega)
    rw [show o + lo + j = o + (lo + j) from by omega, this]
    have e : ((xs.take hi).drop lo).getD j 0 = xs.getD (lo + j) 0 := by
      simp only [List.getD_eq_getElem?_getD, List.getElem?_drop, List.getElem?_take]
      rw [if_pos (by omega)]
    rw [e]
theorem Sl.cutAt {w : World} {k : IntKind} {b o : Nat} {n c : Nat} {xs : List Int} (h : Sl w k (some ⟨b, o, none⟩) n c xs) {lo hi m c' : Nat} (hlo : lo ≤ hi) (hhi : hi ≤ n) (hm : m = hi - lo) (hc' : c' = c - lo) :
    Sl w k (some ⟨b, o + lo, none⟩) m c' ((xs.take hi).drop lo) := by
  have := h.cut hlo hhi hm hc'
  have hadd : (⟨b, o, none⟩ : Addr).add lo = ⟨b, o + lo, none⟩ := by unfold Addr.add; split <;> simp_all
  simpa [hadd] using this
theorem Sl.take_ {w : World} {k : IntKind} {A : Option Addr} {n c : Nat} {xs : List Int} (h : Sl w k A n c xs) {m : Nat} (hm : m ≤ n) : Sl w k A m c (xs.take m) := by
  have hl := h.len
  refine ⟨by simp; omega, by have := h.le; omega, h.cm, h.nl, fun x hx => h.wf x (List.mem_of_mem_take hx), fun hn => ?_⟩
  obtain ⟨b, o, rfl, hb, hc⟩ := h.at_ (by omega)
  refine ⟨b, o, rfl, hb, fun j hj => ?_⟩
  rw [hc j (by omega)]
  simp only [List.getD_eq_getElem?_getD, List.getElem?_take]
  rw [if_pos hj]
/-- the empty piece at the very end -/
theorem Sl.none_ {w : World} {k : IntKind} {A : Option Addr} : Sl w k A 0 0 [] := ⟨rfl, Nat.zero_le _, Nat.zero_le _, fun _ => rfl, by simp, fun h => absurd h (by omega)⟩

/-- element j alone -/
theorem Sl.el {w : World} {k : IntKind} {A : Option Addr} {n c : Nat} {xs : List Int} (h : Sl w k A n c xs) {j : Nat} (hj : j < n) : ∃ x, (Lit.int k x).wf = true ∧ xs.drop j = x :: xs.drop (j + 1) ∧ xs.take (j + 1) = xs.take j ++ [x] := by
  obtain ⟨_, _, x, _, _, _, h1, h2, h3⟩ := h.get hj
  exact ⟨x, h1, h2, h3⟩

/-- the slice value v is the call's own, from block B on, and holds the numbers xs -/
def Own (w : World) (B : Nat) (e : TypeId) (k : IntKind) (v : Value) (xs : List Int) : Prop :=
  w.ownsRow B e 1 v xs.length (xs.map (Value.int k)) ∧ ∀ x ∈ xs, (Lit.int k x).wf = true
/-- the element type E of the slice type T: integers of kind k, of so many bytes -/
structure Elt (P : Program) (T E : TypeId) (k : IntKind) (bytes : Nat) : Prop where
  under : P.underlying T = some (.slice E)
  info : (P.info? E).map (fun i => (i.zero, i.size, i.bytes)) = some (some (.int k 0), 1, bytes)

section
variable {w w' : World} {B B' : Nat} {e : TypeId} {k : IntKind} {v : Value} {xs : List Int}
theorem Own.nil (w : World) (B : Nat) (e : TypeId) (k : IntKind) : Own w B e k (.slice none 0 0) [] := ⟨World.ownsRow_nil _ _ _ _, by simp⟩
theorem Own.mono (h : Own w B e k v xs) (hB : B' ≤ B) : Own w B' e k v xs := by
  obtain ⟨⟨h1, h2⟩, h3⟩ := h
  refine ⟨⟨h1, ?_⟩, h3⟩
  rcases h2 with h2 | ⟨g, cap, cur, hv, hg, r⟩
  · exact Or.inl h2
  · exact Or.inr ⟨g, cap, cur, hv, by omega, r⟩
theorem Own.below (h : Own w B e k v xs) (hb : Below w.heap.size w w') : Own w' B e k v xs := by
  obtain ⟨⟨h1, h2⟩, h3⟩ := h
  refine ⟨⟨h1, ?_⟩, h3⟩
  rcases h2 with h2 | ⟨g, cap, cur, hv, hg, hh, r⟩
  · exact Or.inl h2
  · exact Or.inr ⟨g, cap, cur, hv, hg, by rw [hb.block g (Array.getElem?_eq_some_iff.1 hh).1]; exact hh, r⟩
theorem Own.alloc (h : Own w B e k v xs) (o : Obj) : Own (w.alloc o) B e k v xs := h.below ((Below.refl _ _).alloc (Nat.le_refl _) o)
theorem Own.drew (h : Own w B e k v xs) : Own w.drew B e k v xs := h.below (Below.refl _ _).drew
theorem Own.kept {row : Option Nat} (h : Own w B e k v xs) (hg : w.grownBy w' row) (hne : v.ownBlock = none ∨ v.ownBlock ≠ row) : Own w' B e k v xs := ⟨h.1.kept hg hne, h.2⟩
theorem Own.sl (h : Own w B e k v xs) : ∃ A n c, v = .slice A n c ∧ Sl w k A n c xs := by
  obtain ⟨⟨h1, h2⟩, h3⟩ := h
  rcases h2 with ⟨rfl, hn⟩ | ⟨g, cap, cur, rfl, hg, hh, hnc, hcm, hcs, htake⟩
  · have hx : xs = [] := List.eq_nil_of_length_eq_zero hn
    subst hx
    exact ⟨none, 0, 0, rfl, Sl.nil _ _⟩
  · refine ⟨_, _, _, rfl, rfl, hnc, hcm, by simp, h3, fun hn => ⟨g, 0, rfl, (Array.getElem?_eq_some_iff.1 hh).1, fun j hj => ?_⟩⟩
    rw [Nat.zero_add, cell_of_row w g j cur e (0, 0) hh]
    have : (cur.toList.take (xs.length * 1))[j]? = (xs.map (Value.int k))[j]? := by rw [htake]
    rw [List.getElem?_take, if_pos (by omega)] at this
    simp [hj] at this
    simp [this, hj]
theorem Own.grow (h : Own w B e k v xs) (hg : w.grownBy w' v.ownBlock) (hB : B ≤ w.heap.size) : Below B w w' :=
  (Below.refl _ _).grown hg hB fun j hj => (h.1.lt j hj).1
end

theorem run_append_of_nil {P : Program} (w : World) (base : Nat) (t ty e : TypeId) (i : TypeInfo) (size : Nat) (ht : P.underlying t = some (.slice e)) (hi : P.info? e = some i)
    (v : Value) (n : Nat) (xs : List Value) (hown : w.ownsRow base e size v n xs) (c : Nat) : (Builtin.append_ #[t, t] ty #[v, .slice none 0 c]).run P w = .ok v w := by
  rcases hown.2 with ⟨rfl, rfl⟩ | ⟨g, cap, cur, rfl, _, _, hnc, _⟩
  · simp [Builtin.append_, run_underlying ht, sizeOf, typeInfo, hi, Builtin.lenOf, Builtin.firstCells]
  · simp [Builtin.append_, run_underlying ht, sizeOf, typeInfo, hi, Builtin.lenOf, Builtin.firstCells, hnc, storeCells]

theorem run_app {P : Program} {w : World} {B : Nat} {T E : TypeId} {k : IntKind} {bytes : Nat} (ty : TypeId) (he : Elt P T E k bytes) {v : Value} {xs ys : List Int} {A : Option Addr} {m c : Nat}
    (hown : Own w B E k v xs) (hsl : Sl w k A m c ys) (hB : B ≤ w.heap.size) (hlen : xs.length + m ≤ 1099511627776) (hby : bytes ≤ 64) :
    ∃ v' w', (Builtin.append_ #[T, T] ty #[v, .slice A m c]).run P w = .ok v' w' ∧ Own w' B E k v' (xs ++ ys) ∧ w.grownBy w' v.ownBlock := by
  obtain ⟨i, hi, hz0, hz1, hz2⟩ := info_parts he.info
  have hwf : ∀ x ∈ xs ++ ys, (Lit.int k x).wf = true := by
    intro x hx
    rcases List.mem_append.1 hx with hx | hx
    · exact hown.2 x hx
    · exact hsl.wf x hx
  by_cases hm : m = 0 ∧ A = none
  · obtain ⟨rfl, rfl⟩ := hm
    have hc := hsl.nl rfl
    subst hc
    have hy : ys = [] := List.eq_nil_of_length_eq_zero hsl.len
    subst hy
    exact ⟨v, w, run_append_of_nil w B T ty E i 1 he.under hi v _ _ hown.1 0, by simpa using hown, World.grownBy.refl w _⟩
  · have ha : ∃ ad, A = some ad := by
      cases A with
      | some ad => exact ⟨ad, rfl⟩
      | none => exact absurd ⟨by have := hsl.nl rfl; have := hsl.le; omega, rfl⟩ hm
    obtain ⟨ad, rfl⟩ := ha
    have hl := hsl.len
    have hbb : (xs.length + m) * bytes ≤ 1099511627776 * 64 := Nat.mul_le_mul hlen hby
    obtain ⟨v', w', hrun, h2, h3, _⟩ := run_append_own (P := P) w B T ty E i (.int k 0) 1 bytes he.under hi hz0 hz1 hz2 rfl (by decide) v _ _ hown.1 ad m c (ys.map (Value.int k)) (by simp [hl])
      (by
        intro j u hu
        have hj : j < m := by
          rcases Nat.lt_or_ge j m with h | h
          · exact h
          · rw [List.getElem?_eq_none (by simp [hl]; omega)] at hu; cases hu
        obtain ⟨b, o, ee, hb, hc⟩ := hsl.at_ (by omega)
        injection ee with ee
        subst ee
        have hadd : (⟨b, o, none⟩ : Addr).add j = ⟨b, o + j, none⟩ := by unfold Addr.add; split <;> simp_all
        rw [hadd, hc j hj]
        have hjl : j < ys.length := by omega
        simp [hjl] at hu
        simp [hjl, hu])
      (by intro u hu; simp only [List.mem_map] at hu; obtain ⟨x, _, rfl⟩ := hu; rfl)
      (by unfold maxLen; omega) (by omega) hB
    exact ⟨v', w', hrun, ⟨by simpa [hl] using h2, hwf⟩, h3⟩

/-- append(v, src...), v the call's own -/
theorem wpList_app {P : Program} {w : World} {ops : Array Oper} {rest : List Oper} {o : Oper} {a : Act} {Q : Exit → Act → World → Prop} (hgd : o.guard = none) {s x : Operand} {T : TypeId}
    (ho : o.op = .call { callee := .builtin .append, args := #[s, x], argTypes := #[T, T] }) {B : Nat} {E : TypeId} {k : IntKind} {bytes : Nat} (he : Elt P T E k bytes) (hby : bytes ≤ 64)
    {v : Value} {xs ys : List Int} {A : Option Addr} {m c : Nat} (hs : a.eval s = v) (hx : a.eval x = .slice A m c)
    (hown : Own w B E k v xs) (hsl : Sl w k A m c ys) {B0 : Nat} {w0 : World} (hbel : Below B0 w0 w) (hB : B0 ≤ B ∧ B ≤ w.heap.size) (hlen : xs.length + m ≤ 1099511627776)
    (h : ∀ v' w', Own w' B E k v' (xs ++ ys) → Below B0 w0 w' → w.grownBy w' v.ownBlock → wpList P ops Q rest (a.put o.dst v') w') : wpList P ops Q (o :: rest) a w := by
  refine wpList_plain hgd fun K hK => ?_
  obtain ⟨v', w', hrun, h2, h3⟩ := run_app (P := P) o.type he hown hsl hB.2 hlen hby
  unfold Oper.wp execOp
  simp only [ho, resolve, invoke, builtin, Sem.run_bind, Sem.run_pure, Result.andThen_ok, List.map_toArray, List.map_cons, List.map_nil, hs, hx, hrun]
  exact hK _ _ (h v' w' h2 (hbel.trans ((hown.grow h3 hB.2).mono hB.1)) h3)

/-- a slice value's length -/
def lenOf : Value → Nat | .slice _ n _ => n | _ => 0

/-- a new block of numbers reads as them -/
theorem Sl.new (w : World) (k : IntKind) (E : TypeId) (xs : List Int) (hwf : ∀ x ∈ xs, (Lit.int k x).wf = true) (hl : xs.length ≤ 1099511627776) :
    Sl (w.alloc (.cells (xs.map (Value.int k)).toArray E)) k (some ⟨w.heap.size, 0, none⟩) xs.length xs.length xs :=
  ⟨rfl, Nat.le_refl _, by unfold maxLen; omega, by simp, hwf, fun _ => ⟨w.heap.size, 0, rfl, by simp, fun j hj => by
    rw [Nat.zero_add, cell_of_row _ w.heap.size j _ E (0, 0) (heap_alloc_new w _)]; simp [hj]⟩⟩
/-- the same where the row bears a mark of the run-time's -/
theorem Sl.newF (w : World) (k : IntKind) (E : TypeId) (xs : List Int) (fr : Nat × Nat) (hwf : ∀ x ∈ xs, (Lit.int k x).wf = true) (hl : xs.length ≤ 1099511627776) :
    Sl (w.alloc (.cells (xs.map (Value.int k)).toArray E fr)) k (some ⟨w.heap.size, 0, none⟩) xs.length xs.length xs :=
  ⟨rfl, Nat.le_refl _, by unfold maxLen; omega, by simp, hwf, fun _ => ⟨w.heap.size, 0, rfl, by simp, fun j hj => by
    rw [Nat.zero_add, cell_of_row _ w.heap.size j _ E fr (heap_alloc_new w _)]; simp [hj]⟩⟩
theorem Sl.one (w : World) (k : IntKind) (E : TypeId) (x : Int) (hwf : (Lit.int k x).wf = true) : Sl (w.alloc (.cells #[.int k x] E)) k (some ⟨w.heap.size, 0, none⟩) 1 1 [x] :=
  Sl.new w k E [x] (by simpa using hwf) (by simp)
theorem Own.new (w : World) (k : IntKind) (E : TypeId) (xs : List Int) (hwf : ∀ x ∈ xs, (Lit.int k x).wf = true) (hl : xs.length ≤ 1099511627776) {B : Nat} (hB : B ≤ w.heap.size) :
    Own (w.alloc (.cells (xs.map (Value.int k)).toArray E)) B E k (.slice (some ⟨w.heap.size, 0, none⟩) xs.length xs.length) xs := by
  refine ⟨?_, hwf⟩
  have h := World.ownsRow_lit (base := B) (e := E) (size := 1) w (xs.map (Value.int k)).toArray xs.length hB (by unfold maxLen; omega) (by simp)
  simpa using h

/-- returns a slice (inside f) that is the call's own -/
def RetOwn (f : Value → Value) (E : TypeId) (k : IntKind) (xs : List Int) (w : World) (e : Ending) (w' : World) : Prop :=
  ∃ v, e = .returned (f v) ∧ Own w' w.heap.size E k v xs ∧ Below w.heap.size w w'
/-- returns a slice (inside f) that reads as xs -/
def RetSl (f : Value → Value) (k : IntKind) (xs : List Int) (w : World) (e : Ending) (w' : World) : Prop :=
  ∃ A n c, e = .returned (f (.slice A n c)) ∧ Sl w' k A n c xs ∧ Below w.heap.size w w'
theorem RetOwn.sl {f : Value → Value} {E : TypeId} {k : IntKind} {xs : List Int} {w w' : World} {e : Ending} (h : RetOwn f E k xs w e w') : RetSl f k xs w e w' := by
  obtain ⟨v, rfl, ho, hb⟩ := h
  obtain ⟨A, n, c, rfl, hs⟩ := ho.sl
  exact ⟨A, n, c, rfl, hs, hb⟩
theorem Own.new0 (w : World) (k : IntKind) (E : TypeId) {B : Nat} (hB : B ≤ w.heap.size) : Own (w.alloc (.cells #[] E)) B E k (.slice (some ⟨w.heap.size, 0, none⟩) 0 0) [] :=
  Own.new w k E [] (by simp) (by simp) hB
theorem Own.one (w : World) (k : IntKind) (E : TypeId) (x : Int) (hwf : (Lit.int k x).wf = true) {B : Nat} (hB : B ≤ w.heap.size) : Own (w.alloc (.cells #[.int k x] E)) B E k (.slice (some ⟨w.heap.size, 0, none⟩) 1 1) [x] :=
  Own.new w k E [x] (by simpa using hwf) (by simp) hB

/-- where the first number is of which p holds; -1: there is none -/
def idx (p : Int → Bool) : List Int → Int → Int
  | [], _ => -1
  | x :: r, i => if p x then i else idx p r (i + 1)
theorem idx_cases (p : Int → Bool) (xs : List Int) (i : Int) : (xs.any p = false ∧ idx p xs i = -1) ∨ (xs.any p = true ∧ i ≤ idx p xs i ∧ idx p xs i < i + xs.length) := by
  induction xs generalizing i with
  | nil => exact .inl ⟨rfl, rfl⟩
  | cons x r ih =>
    by_cases h : p x = true
    · refine .inr ⟨by simp [h], ?_⟩
      simp [idx, h]; omega
    · have hf : p x = false := by simpa using h
      rcases ih (i + 1) with ⟨h1, h2⟩ | ⟨h1, h2, h3⟩
      · exact .inl ⟨by simp [hf, h1], by simp [idx, hf, h2]⟩
      · exact .inr ⟨by simp [hf, h1], by simp [idx, hf]; omega, by simp [idx, hf]; omega⟩
theorem idx_neg (p : Int → Bool) (xs : List Int) : idx p xs 0 < 0 ↔ xs.any p = false := by
  rcases idx_cases p xs 0 with ⟨h1, h2⟩ | ⟨h1, h2, h3⟩
  · simp [h1, h2]
  · simp [h1]; omega
theorem idx_m1 (p : Int → Bool) (xs : List Int) : idx p xs 0 = -1 ↔ xs.any p = false := by
  rcases idx_cases p xs 0 with ⟨h1, h2⟩ | ⟨h1, h2, h3⟩
  · simp [h1, h2]
  · simp [h1]; omega
/-- are two lists the same? -/
def likeL (xs ys : List Int) : Bool := decide (xs = ys)
theorem likeL_self (xs : List Int) : likeL xs xs = true := by simp [likeL]

/-- a predicate that a function without captured variables computes -/
structure Pred (P : Program) (k : IntKind) (g : Nat) (p : Int → Bool) : Prop where
  ent : ∀ (args : Array Value) (w : World), (callFunc g args).run P w = .ok (.enter g args) w
  call : ∀ (x : Int) (W : World), (Lit.int k x).wf = true → Calls P g #[.int k x] W (Ret (.bool (p x)) W)
/-- one place of a slice of the call's own: its cell, and what a store leaves -/
theorem Own.at_ {w : World} {B : Nat} {e : TypeId} {k : IntKind} {A : Option Addr} {n c : Nat} {xs : List Int} (h : Own w B e k (.slice A n c) xs) {j : Nat} (hj : j < xs.length) :
    ∃ g, A = some ⟨g, 0, none⟩ ∧ B ≤ g ∧ g < w.heap.size ∧ w.cell? ⟨g, j, none⟩ = some (.int k (xs.getD j 0)) ∧ w.frozen? ⟨g, j, none⟩ = false ∧
      ∀ u, (Lit.int k u).wf = true → Own (w.setCell ⟨g, j, none⟩ (.int k u)) B e k (.slice A n c) (xs.set j u) := by
  obtain ⟨h1, h3⟩ := h
  have h0 := h1
  obtain ⟨hl, h2⟩ := h1
  rcases h2 with ⟨hv, hn⟩ | ⟨g, cap, cur, hv, hg, hh, r⟩
  · omega
  · injection hv with e1 e2 e3
    subst e1; subst e2; subst e3
    refine ⟨g, rfl, hg, (Array.getElem?_eq_some_iff.1 hh).1, ?_, h0.frozenAt j, fun u hu => ⟨?_, fun x hx => ?_⟩⟩
    · rw [h0.cellAt j (by omega)]; simp [hj]
    · have := (h0.stored j (.int k u)).1
      simpa [List.map_set] using this
    · rcases List.mem_or_eq_of_mem_set hx with hx | hx
      · exact h3 x hx
      · subst hx; exact hu

/-- a list of which the first k have been turned by f -/
def mapAt (f : Int → Int) (xs : List Int) (k : Nat) : List Int := (xs.take k).map f ++ xs.drop k
theorem mapAt_zero (f : Int → Int) (xs : List Int) : mapAt f xs 0 = xs := by simp [mapAt]
theorem mapAt_all (f : Int → Int) (xs : List Int) (k : Nat) (h : xs.length ≤ k) : mapAt f xs k = xs.map f := by simp [mapAt, List.take_of_length_le h, List.drop_eq_nil_of_le h]
theorem mapAt_length (f : Int → Int) (xs : List Int) (k : Nat) : (mapAt f xs k).length = xs.length := by simp [mapAt]; omega
theorem mapAt_get {f : Int → Int} {xs : List Int} {k : Nat} {x : Int} (hd : xs.drop k = x :: xs.drop (k + 1)) : (mapAt f xs k).getD k 0 = x := by
  have hk : k < xs.length := by
    rcases Nat.lt_or_ge k xs.length with h | h
    · exact h
    · rw [List.drop_eq_nil_of_le h] at hd; cases hd
  have hl : ((xs.take k).map f).length = k := by simp; omega
  simp only [mapAt, hd, List.getD_eq_getElem?_getD]
  rw [List.getElem?_append_right (by omega), hl]; simp
theorem mapAt_set {f : Int → Int} {xs : List Int} {k : Nat} {x : Int} (hd : xs.drop k = x :: xs.drop (k + 1)) (ht : xs.take (k + 1) = xs.take k ++ [x]) : (mapAt f xs k).set k (f x) = mapAt f xs (k + 1) := by
  have hk : k < xs.length := by
    rcases Nat.lt_or_ge k xs.length with h | h
    · exact h
    · rw [List.drop_eq_nil_of_le h] at hd; cases hd
  have hl : ((xs.take k).map f).length = k := by simp; omega
  simp only [mapAt, hd, ht]
  rw [List.set_append_right _ _ (by omega), hl]; simp
theorem mapAt_skip {f : Int → Int} {xs : List Int} {k : Nat} {x : Int} (hd : xs.drop k = x :: xs.drop (k + 1)) (ht : xs.take (k + 1) = xs.take k ++ [x]) (hf : f x = x) : mapAt f xs k = mapAt f xs (k + 1) := by
  simp only [mapAt, hd, ht]; simp [hf]
/-- a slice of integers that came in -/
theorem Sl.ofRow {k : IntKind} {w : World} {a : Option Addr} {len cap : Nat} {zs : List Int} (h : (a = none ∧ len = 0 ∧ cap = 0 ∧ zs = []) ∨
    ∃ x, a = some x ∧ len ≤ cap ∧ cap ≤ maxLen ∧ zs.length = cap ∧ (∀ i, i < zs.length → w.cell? (x.add i) = some (.int k (zs.getD i 0))) ∧ ∀ n ∈ zs, (Lit.int k n).wf = true) :
    Sl w k a len cap (zs.take len) := by
  rcases h with ⟨rfl, rfl, rfl, rfl⟩ | ⟨x, rfl, hl, hm, hz, hcell, hwz⟩
  · exact Sl.nil _ _
  · refine ⟨by simp; omega, hl, hm, by simp, fun y hy => hwz y (List.mem_of_mem_take hy), fun hn => ?_⟩
    obtain ⟨b, off, spot⟩ := x
    have h0 := hcell 0 (by omega)
    have hspot : spot = none := by simpa [Addr.add] using World.cell?_spot h0
    subst hspot
    refine ⟨b, off, rfl, World.block_lt_of_cell? w _ (by simpa [Addr.add] using h0), fun j hj => ?_⟩
    have hj' := hcell j (by omega)
    have hadd : (⟨b, off, none⟩ : Addr).add j = ⟨b, off + j, none⟩ := by unfold Addr.add; split <;> simp_all
    rw [hadd] at hj'
    rw [hj']
    simp [hj]
end Go.Proofs.Ytjiofcnlibkhkaa
