/- Words for memory: slices of slices of octets, that came in, and of the call's own. No condition: plain lemmas. -/
import Derived.Test.YtibnmekifaaacaaLibB
namespace Go.Proofs.Ytibnmekifaaacaa
open Go.RowKit

theorem add_plain (b o j : Nat) : (⟨b, o, none⟩ : Addr).add j = ⟨b, o + j, none⟩ := by unfold Addr.add; split <;> simp_all

/-- a block that a row of type e, from B on, is not -/
def Safe (w : World) (B : Nat) (e : TypeId) (A : Option Addr) : Prop := ∀ a, A = some a → a.block < B ∨ ∃ arr T fr, w.heap[a.block]? = some (.cells arr T fr) ∧ T ≠ e
/-- the slice A n c holds the lines ls: each of them a slice that reads as octets -/
structure Lns (w : World) (A : Option Addr) (n c : Nat) (ls : List (List Int)) : Prop where
  len : ls.length = n
  le : n ≤ c
  cm : c ≤ maxLen
  nl : A = none → c = 0
  at_ : 0 < n → ∃ b o, A = some ⟨b, o, none⟩ ∧ b < w.heap.size ∧ ∀ j, j < n → ∃ A' n' c', w.cell? ⟨b, o + j, none⟩ = some (.slice A' n' c') ∧ Sl w .u8 A' n' c' (ls.getD j [])
theorem Lns.keep {w w' : World} {A n c ls} (h : Lns w A n c ls) (hz : w.heap.size ≤ w'.heap.size) (hk : ∀ p : Addr, p.block < w.heap.size → w'.cell? p = w.cell? p) : Lns w' A n c ls :=
  ⟨h.len, h.le, h.cm, h.nl, fun hn => by
    obtain ⟨b, o, e, hb, hc⟩ := h.at_ hn
    refine ⟨b, o, e, by omega, fun j hj => ?_⟩
    obtain ⟨A', n', c', h1, h2⟩ := hc j hj
    exact ⟨A', n', c', (hk _ hb).trans h1, h2.keep hz hk⟩⟩
theorem Lns.bel {w w' : World} {A n c ls} (h : Lns w A n c ls) (hb : Below w.heap.size w w') : Lns w' A n c ls := h.keep hb.size fun _ hp => hb.cell hp
theorem drop_getL (ls : List (List Int)) (j : Nat) (hj : j < ls.length) : ls.drop j = ls.getD j [] :: ls.drop (j + 1) := by
  rw [List.drop_eq_getElem_cons hj]; simp [hj]
theorem take_getL (ls : List (List Int)) (j : Nat) (hj : j < ls.length) : ls.take (j + 1) = ls.take j ++ [ls.getD j []] := by
  rw [List.take_succ_eq_append_getElem hj]; simp [hj]
/-- line j: its place, its value, the rest of the lines from there on -/
theorem Lns.get {w : World} {A n c ls} (h : Lns w A n c ls) {j : Nat} (hj : j < n) : ∃ b o A' n' c' xs, A = some ⟨b, o, none⟩ ∧ b < w.heap.size ∧ w.cell? ⟨b, o + j, none⟩ = some (.slice A' n' c') ∧
    Sl w .u8 A' n' c' xs ∧ ls.getD j [] = xs ∧ ls.drop j = xs :: ls.drop (j + 1) ∧ ls.take (j + 1) = ls.take j ++ [xs] := by
  obtain ⟨b, o, e, hb, hc⟩ := h.at_ (by omega)
  obtain ⟨A', n', c', h1, h2⟩ := hc j hj
  have hl : j < ls.length := by have := h.len; omega
  exact ⟨b, o, A', n', c', _, e, hb, h1, h2, rfl, drop_getL ls j hl, take_getL ls j hl⟩
theorem Lns.nil (w : World) : Lns w none 0 0 [] := ⟨rfl, Nat.zero_le _, Nat.zero_le _, fun _ => rfl, fun h => absurd h (by omega)⟩
/-- a piece of it -/
theorem Lns.cut {w : World} {b o n c ls} (h : Lns w (some ⟨b, o, none⟩) n c ls) {lo hi m c' : Nat} (hlo : lo ≤ hi) (hhi : hi ≤ n) (hm : m = hi - lo) (hc' : c' = c - lo) :
    Lns w (some ⟨b, o + lo, none⟩) m c' ((ls.take hi).drop lo) := by
  subst hm; subst hc'
  have hl := h.len
  have hle := h.le
  have hcm := h.cm
  refine ⟨by simp; omega, by omega, by omega, by simp, fun hn => ?_⟩
  obtain ⟨b', o', e, hb, hc⟩ := h.at_ (by omega)
  injection e with e; injection e with e1 e2 _
  subst e1; subst e2
  refine ⟨b, o + lo, rfl, hb, fun j hj => ?_⟩
  obtain ⟨A', n', c', h1, h2⟩ := hc (lo + j) (by omega)
  refine ⟨A', n', c', by rw [show o + lo + j = o + (lo + j) from by omega]; exact h1, ?_⟩
  have e : ((ls.take hi).drop lo).getD j [] = ls.getD (lo + j) [] := by
    simp only [List.getD_eq_getElem?_getD, List.getElem?_drop, List.getElem?_take]
    rw [if_pos (by omega)]
  rw [e]; exact h2

/-- the element type E of the slice type T: slices -/
structure EltS (P : Program) (T E : TypeId) : Prop where
  under : P.underlying T = some (.slice E)
  info : (P.info? E).map (fun i => (i.zero, i.size, i.bytes)) = some (some (.slice none 0 0), 1, 24)
/-- a line among the call's own lines, whose row is of type e and lies from B on -/
def Ln (w : World) (B : Nat) (e : TypeId) (v : Value) (xs : List Int) : Prop := ∃ A n c, v = .slice A n c ∧ Sl w .u8 A n c xs ∧ (0 < n → Safe w B e A)
/-- the slice value v is the call's own, from block B on, and holds the lines ls -/
def OwnL (w : World) (B : Nat) (e : TypeId) (v : Value) (ls : List (List Int)) : Prop :=
  ∃ vs, w.ownsRow B e 1 v ls.length vs ∧ ∀ j, j < ls.length → ∃ u, vs[j]? = some u ∧ Ln w B e u (ls.getD j [])
section
variable {w w' : World} {B : Nat} {e : TypeId} {v : Value} {ls : List (List Int)}
theorem OwnL.nil (w : World) (B : Nat) (e : TypeId) : OwnL w B e (.slice none 0 0) [] := ⟨[], World.ownsRow_nil _ _ _ _, fun j hj => absurd hj (by simp)⟩
theorem Safe.below {A : Option Addr} (h : Safe w B e A) (hA : ∀ a, A = some a → a.block < w.heap.size) (hb : Below w.heap.size w w') : Safe w' B e A := fun a ha => by
  rcases h a ha with h1 | ⟨arr, T, fr, h1, h2⟩
  · exact .inl h1
  · exact .inr ⟨arr, T, fr, by rw [hb.block _ (hA a ha)]; exact h1, h2⟩
theorem Sl.blk {k : IntKind} {A : Option Addr} {n c : Nat} {xs : List Int} (h : Sl w k A n c xs) (hn : 0 < n) : ∀ a, A = some a → a.block < w.heap.size := by
  obtain ⟨b, o, rfl, hb⟩ := h.form hn
  intro a ha; injection ha with ha; subst ha; exact hb
theorem Ln.below {v : Value} {xs : List Int} (h : Ln w B e v xs) (hb : Below w.heap.size w w') : Ln w' B e v xs := by
  obtain ⟨A, n, c, rfl, h1, h2⟩ := h
  exact ⟨A, n, c, rfl, h1.bel hb, fun hn => (h2 hn).below (h1.blk hn) hb⟩
/-- what a write to a row of type e from B on leaves -/
theorem Ln.kept {v : Value} {xs : List Int} {row : Option Nat} (h : Ln w B e v xs) (hg : w.grownBy w' row) (hrow : ∀ g, row = some g → B ≤ g ∧ ∃ arr fr, w.heap[g]? = some (.cells arr e fr)) : Ln w' B e v xs := by
  obtain ⟨A, n, c, rfl, h1, h2⟩ := h
  rcases Nat.eq_zero_or_pos n with h0 | h0
  · subst h0
    exact ⟨A, 0, c, rfl, ⟨h1.len, h1.le, h1.cm, h1.nl, h1.wf, fun h => absurd h (by omega)⟩, fun h => absurd h (by omega)⟩
  · obtain ⟨b, o, rfl, hb, hc⟩ := h1.at_ h0
    have hne : some b ≠ row := by
      intro hr
      obtain ⟨hB, arr, fr, hh⟩ := hrow b hr.symm
      rcases h2 h0 _ rfl with h3 | ⟨arr', T, fr', h3, h4⟩
      · exact absurd h3 (by simp; omega)
      · simp only [] at h3
        rw [hh] at h3
        injection h3 with h3
        injection h3 with _ h5 _
        exact h4 h5.symm
    have hk : ∀ j, w'.cell? ⟨b, j, none⟩ = w.cell? ⟨b, j, none⟩ := fun j => World.cell?_of_block (hg.block b hb hne)
    refine ⟨_, n, c, rfl, ⟨h1.len, h1.le, h1.cm, h1.nl, h1.wf, fun _ => ⟨b, o, rfl, Nat.lt_of_lt_of_le hb hg.size, fun j hj => (hk _).trans (hc j hj)⟩⟩, fun _ a ha => ?_⟩
    rcases h2 h0 a ha with h3 | ⟨arr', T, fr', h3, h4⟩
    · exact .inl h3
    · injection ha with ha; subst ha
      exact .inr ⟨arr', T, fr', by rw [hg.block b hb hne]; exact h3, h4⟩
theorem OwnL.below (h : OwnL w B e v ls) (hb : Below w.heap.size w w') : OwnL w' B e v ls := by
  obtain ⟨vs, ⟨h1, h2⟩, h3⟩ := h
  refine ⟨vs, ⟨h1, ?_⟩, fun j hj => ?_⟩
  · rcases h2 with h2 | ⟨g, cap, cur, hv, hg, hh, r⟩
    · exact .inl h2
    · exact .inr ⟨g, cap, cur, hv, hg, by rw [hb.block g (Array.getElem?_eq_some_iff.1 hh).1]; exact hh, r⟩
  · obtain ⟨u, hu, hl⟩ := h3 j hj
    exact ⟨u, hu, hl.below hb⟩
theorem OwnL.alloc (h : OwnL w B e v ls) (o : Obj) : OwnL (w.alloc o) B e v ls := h.below ((Below.refl _ _).alloc (Nat.le_refl _) o)
theorem OwnL.drew (h : OwnL w B e v ls) : OwnL w.drew B e v ls := h.below (Below.refl _ _).drew
theorem OwnL.lns (h : OwnL w B e v ls) : ∃ A n c, v = .slice A n c ∧ Lns w A n c ls := by
  obtain ⟨vs, ⟨h1, h2⟩, h3⟩ := h
  rcases h2 with ⟨rfl, hn⟩ | ⟨g, cap, cur, rfl, hg, hh, hnc, hcm, hcs, htake⟩
  · have hx : ls = [] := List.eq_nil_of_length_eq_zero hn
    subst hx
    exact ⟨none, 0, 0, rfl, Lns.nil _⟩
  · refine ⟨_, _, _, rfl, rfl, hnc, hcm, by simp, fun hn => ⟨g, 0, rfl, (Array.getElem?_eq_some_iff.1 hh).1, fun j hj => ?_⟩⟩
    obtain ⟨u, hu, A', n', c', rfl, hs, _⟩ := h3 j hj
    refine ⟨A', n', c', ?_, hs⟩
    rw [Nat.zero_add, cell_of_row w g j cur e (0, 0) hh]
    rw [← htake, List.getElem?_take, if_pos (by omega)] at hu
    simpa using hu
end
theorem getD_snoc (ls : List (List Int)) (xs : List Int) (j : Nat) (hj : j < (ls ++ [xs]).length) : (ls ++ [xs]).getD j [] = if j < ls.length then ls.getD j [] else xs := by
  simp only [List.getD_eq_getElem?_getD]
  simp only [List.length_append, List.length_cons, List.length_nil] at hj
  by_cases h : j < ls.length
  · rw [if_pos h, List.getElem?_append_left h]
  · rw [if_neg h, List.getElem?_append_right (by omega), show j - ls.length = 0 from by omega]; rfl

/-- append(v, x), v the call's own lines, x one line -/
theorem wpList_appL {P : Program} {w : World} {ops : Array Oper} {rest : List Oper} {o : Oper} {a : Act} {Q : Exit → Act → World → Prop} (hgd : o.guard = none) {s x : Operand} {T : TypeId}
    (ho : o.op = .call { callee := .builtin .append, args := #[s, x], argTypes := #[T, T] }) {B : Nat} {E : TypeId} (he : EltS P T E)
    {v : Value} {ls : List (List Int)} {u : Value} {xs : List Int} (hs : a.eval s = v) (hx : a.eval x = .slice (some ⟨w.heap.size, 0, none⟩) 1 1)
    (hown : OwnL w B E v ls) (hln : Ln w B E u xs) {B0 : Nat} {w0 : World} (hbel : Below B0 w0 w) (hB : B0 ≤ B ∧ B ≤ w.heap.size) (hlen : ls.length + 1 ≤ 1099511627776)
    (h : ∀ v' w', OwnL w' B E v' (ls ++ [xs]) → Below B0 w0 w' → wpList P ops Q rest (a.put o.dst v') w') : wpList P ops Q (o :: rest) a (w.alloc (.cells #[u] E)) := by
  refine wpList_plain hgd fun K hK => ?_
  obtain ⟨i, hi, hz0, hz1, hz2⟩ := info_parts he.info
  have hown1 := hown.alloc (.cells #[u] E)
  have hln1 := hln.below ((Below.refl w.heap.size w).alloc (Nat.le_refl _) (.cells #[u] E))
  obtain ⟨vs, hrow, hall⟩ := hown1
  obtain ⟨v', w', hrun, h2, h3, _⟩ := run_append_own (P := P) (w.alloc (.cells #[u] E)) B T o.type E i (.slice none 0 0) 1 24 he.under hi hz0 hz1 hz2 rfl (by decide) v _ _ hrow ⟨w.heap.size, 0, none⟩ 1 1 [u] rfl
    (by
      intro j y hy
      match j, hy with
      | 0, hy => simp at hy; subst hy; rw [add_plain]; exact World.cell?_alloc_at _ _ _ _ rfl)
    (by intro y hy; simp at hy; subst hy; obtain ⟨A, n, c, rfl, _⟩ := hln; rfl)
    (by unfold maxLen; omega) (by omega) (by simp; omega)
  have hrw : ∀ g, v.ownBlock = some g → B ≤ g ∧ ∃ arr fr, (w.alloc (.cells #[u] E)).heap[g]? = some (.cells arr E fr) := by
    intro g hg
    rcases hrow.2 with ⟨rfl, _⟩ | ⟨g', cap, cur, rfl, hb, hh, _⟩
    · simp [Value.ownBlock] at hg
    · simp [Value.ownBlock] at hg
      subst hg
      exact ⟨hb, cur, (0, 0), hh⟩
  have hfin : OwnL w' B E v' (ls ++ [xs]) := by
    refine ⟨vs ++ [u], by simpa using h2, fun j hj => ?_⟩
    rw [getD_snoc ls xs j hj]
    have hvl : vs.length = ls.length := by simpa using hrow.1
    by_cases hlt : j < ls.length
    · rw [if_pos hlt]
      obtain ⟨y, hy, hl⟩ := hall j hlt
      exact ⟨y, by rw [List.getElem?_append_left (by omega)]; exact hy, hl.kept h3 hrw⟩
    · rw [if_neg hlt]
      simp only [List.length_append, List.length_cons, List.length_nil] at hj
      exact ⟨u, by rw [List.getElem?_append_right (by omega), show j - vs.length = 0 from by omega]; rfl, hln1.kept h3 hrw⟩
  unfold Oper.wp execOp
  simp only [ho, resolve, invoke, builtin, Sem.run_bind, Sem.run_pure, Result.andThen_ok, List.map_toArray, List.map_cons, List.map_nil, hs, hx, hrun]
  refine hK _ _ (h v' w' hfin ?_)
  have hb1 : Below B (w.alloc (.cells #[u] E)) w' := (Below.refl _ _).grown h3 (by simp; omega) fun k hk => (hrw k hk).1
  exact ((hbel.alloc (by have := hbel.size; omega) _).trans (hb1.mono hB.1))
/-- a line of the call's own octets, whose row is of another type -/
theorem Own.ln {w : World} {B B' : Nat} {e e' : TypeId} {v : Value} {xs : List Int} (h : Own w B' e' .u8 v xs) (hne : e' ≠ e) : Ln w B e v xs := by
  obtain ⟨A, n, c, rfl, hs⟩ := h.sl
  refine ⟨A, n, c, rfl, hs, fun hn a ha => ?_⟩
  obtain ⟨⟨h1, h2⟩, _⟩ := h
  rcases h2 with ⟨hv, h0⟩ | ⟨g, cap, cur, hv, hg, hh, r⟩
  · injection hv with _ hv _; omega
  · injection hv with hv _ _
    subst hv; injection ha with ha; subst ha
    exact .inr ⟨cur, e', (0, 0), hh, hne⟩
/-- a line that was there before block B -/
theorem Sl.ln {w : World} {B : Nat} {e : TypeId} {A : Option Addr} {n c : Nat} {xs : List Int} {w0 : World} (h : Sl w .u8 A n c xs) (h0 : Sl w0 .u8 A n c xs) (hB : w0.heap.size ≤ B) : Ln w B e (.slice A n c) xs :=
  ⟨A, n, c, rfl, h, fun hn a ha => .inl (by have := h0.blk hn a ha; omega)⟩
/-- returns lines (inside f) that are the call's own -/
def RetOwnL (f : Value → Value) (E : TypeId) (ls : List (List Int)) (w : World) (e : Ending) (w' : World) : Prop :=
  ∃ v, e = .returned (f v) ∧ OwnL w' w.heap.size E v ls ∧ Below w.heap.size w w'
end Go.Proofs.Ytibnmekifaaacaa
